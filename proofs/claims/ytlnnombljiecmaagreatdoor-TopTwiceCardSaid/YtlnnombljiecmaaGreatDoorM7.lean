/- Walks by the logic of calls, and plain laws (several texts in one). -/
import Derived.Test.YtlnnombljiecmaaGreatDoorM6
import Derived.Test.YtlnnombljiecmaaGreatDoorGh3
import Derived.Lib.ItoaLen
import Derived.Test.YtlnnombljiecmaaGreatDoorGh4
namespace Go.Gh
open Go Go.Proofs
set_option maxRecDepth 1000000
set_option maxHeartbeats 2000000
set_option linter.unusedSimpArgs false
set_option linter.unusedVariables false
set_option linter.unnecessarySimpa false
set_option linter.unusedSectionVars false
variable [Dep]
open Go.RowKit
theorem zCs (w:World) (k:Nat) (os:Array Obj):Below w.heap.size w (Go.Sort.grow (w.drewN k) os):=
 ⟨rfl,rfl,rfl,by show w.heap.size<=(w.heap++os).size;rw[Array.size_append];omega,fun r hr=>by
  show (w.heap++os)[r]? =w.heap[r]?
  exact Array.getElem?_append_left hr⟩
def Zl (n:Int):ByteArray:=⟨(Lib.itoa n).toArray⟩
theorem yT (n:Int) (h:yn n):GC Tryz.prog 41 [iG n] (sG (Zl n)):=
 zFr Tryz.func41 rfl rfl rfl rfl fun F w hg=>(Tryz.strconv_Itoa n h.1 h.2 w (UY (g:=1) hg (by exact List.mem_cons_self) (by kernel_rfl))).mono fun e w' ⟨h1,k,os,h2⟩=>⟨h1,h2▸zCs w k os⟩
theorem ZK (a:Array UInt8):ByteArray.size ⟨a⟩=a.size:=rfl
theorem arrT2 {us:Array Value} (h:us.size=2):∃a b,us= #[a,b]:=by
 obtain ⟨l⟩:=us
 match l,h with
 | [a,b],_=>exact ⟨a,b,rfl⟩
theorem yM {n:Int} (h:yn n):(Zl n).size<=21:=by
 have:=Lib.itoa_length_le n h.1 h.2
 show (Lib.itoa n).toArray.size<=21
 simpa using this
def bsT (s:ByteArray):List UInt8:=s.data.toList
def zBa (xs:List ByteArray) (sep:ByteArray):ByteArray:=⟨(Lib.join (xs.map bsT) (bsT sep)).toArray⟩
theorem uf (xs:List ByteArray) (sep:ByteArray) (hN:xs.length<=140737488355328) (hlen:(Lib.join (xs.map bsT) (bsT sep)).length<=140737488355328):GC Tryz.prog 39 [.d (.row dF zf xs),sG sep] (sG (zBa xs sep)):=by
 refine zMx Tryz.func39 rfl rfl rfl fun F w us hg hF hv=> ?_
 have h2:us.size=2:=hv.1
 obtain ⟨u,v,rfl⟩:=arrT2 h2
 have e1:=(hv.2 1 (sG sep) v rfl rfl).sc_eq.1
 subst e1
 obtain ⟨A,c,b,off,es,val,rfl,hA,hc,hl,hw,hFc,hd⟩:=(hv.2 0 _ u rfl rfl).row_inv
 by_cases hx:xs= []
 ·subst hx
  refine (Tryz.strings_Join_none A c sep w).mono fun e w' ⟨h1,h2⟩=>⟨_,fun _ _=>False,h1,h2▸Below.refl _ _,fun _ _ h=>h.elim,.d (.sc _ rfl)⟩
 have hA':=hA hx
 subst hA'
 obtain ⟨x0,xl,hxx⟩:=List.exists_cons_of_ne_nil hx
 have hes:es=1:=by have:=hl x0 (by rw[hxx];exact List.mem_cons_self);simpa [zf]using this.symm
 subst hes
 have hcell:∀(j:Nat) x,xs[j]? =some x->w.cell? ⟨b,off+j,none⟩=some (.string x):=fun j x hj=>by
  have h3:=hw j x 0 (.sc (.string x)) hj rfl
  have h4:=hd j x 0 (.sc (.string x)) hj rfl
  generalize val j 0=z at h3 h4
  cases h4
  rw[Nat.mul_one,Nat.add_zero]at h3
  exact h3
 have hbk:b<w.heap.size:=by
  have h3:F b (off+0*1+0):=hFc 0 x0 0 (.sc (.string x0)) (by rw[hxx];rfl) rfl
  exact hF _ _ h3
 refine (Tryz.strings_Join b off c xs sep w hcell hbk hN hc hlen).mono fun e w' ⟨h1,h2⟩=>⟨_,fun _ _=>False,h1,h2,fun _ _ h=>h.elim,.d (.sc _ rfl)⟩
def Qq (n:Int):ByteArray:=((((Zl ((yX n).1))++(⟨#[45]⟩:ByteArray))++(Zl ((yX n).2.1)))++(⟨#[45]⟩:ByteArray))++(Zl ((yX n).2.2.1))
theorem Jv (n:Int) (h1:yn (yX n).1) (h2:yn (yX n).2.1) (h3:yn (yX n).2.2.1):GC Tryz.prog 42 [iG n] (sG (Qq n)):=by
 have z1:=yM h1
 have z2:=yM h2
 have z3:=yM h3
 refine zA Tryz.func42 ?_
 refine gE [0,2] ?_
 refine gR [.call (zUd n)] [2,3,4,5] ?_
 refine gR [.call (yT ((yX n).1) t16),.call (yT ((yX n).2.1) t16),.call (yT ((yX n).2.2.1) t16)] [2] ?_ (hp:=(by simp only[zC,bb,toN,ByteArray.size_append,ZK,List.size_toArray,List.length_cons,List.length_nil];repeat' first|exact trivial|exact zH.refl _|exact rfl|omega|apply And.intro|intro _|(simp only[ByteArray.size_append,ZK,List.size_toArray,List.length_cons,List.length_nil];omega)|(simp;omega)))
 refine gT ?_
 rw[Qq];rfl
def Qz (t:Tnr):ByteArray:=if t.unit=1 then if t.kind=2 then if t.kind=0 then (⟨#[112,97,121,32,97,116,32,115,105,103,104,116]⟩:ByteArray)else if t.kind=3 then (⟨#[112,97,121,32,111,110,32]⟩:ByteArray)++(Qq t.n)else if t.kind=4 then (⟨#[112,97,121,32,97,116,32,117,115,97,110,99,101]⟩:ByteArray)else ((((⟨#[112,97,121,32]⟩:ByteArray)++(Zl t.n))++(⟨#[32,109,111,110,116,104,115]⟩:ByteArray))++(⟨#[32,97,102,116,101,114]⟩:ByteArray))++(⟨#[32,100,97,116,101]⟩:ByteArray)else if t.kind=0 then (⟨#[112,97,121,32,97,116,32,115,105,103,104,116]⟩:ByteArray)else if t.kind=3 then (⟨#[112,97,121,32,111,110,32]⟩:ByteArray)++(Qq t.n)else if t.kind=4 then (⟨#[112,97,121,32,97,116,32,117,115,97,110,99,101]⟩:ByteArray)else ((((⟨#[112,97,121,32]⟩:ByteArray)++(Zl t.n))++(⟨#[32,109,111,110,116,104,115]⟩:ByteArray))++(⟨#[32,97,102,116,101,114]⟩:ByteArray))++(⟨#[32,115,105,103,104,116]⟩:ByteArray)else if t.kind=2 then if t.kind=0 then (⟨#[112,97,121,32,97,116,32,115,105,103,104,116]⟩:ByteArray)else if t.kind=3 then (⟨#[112,97,121,32,111,110,32]⟩:ByteArray)++(Qq t.n)else if t.kind=4 then (⟨#[112,97,121,32,97,116,32,117,115,97,110,99,101]⟩:ByteArray)else ((((⟨#[112,97,121,32]⟩:ByteArray)++(Zl t.n))++(⟨#[32,100,97,121,115]⟩:ByteArray))++(⟨#[32,97,102,116,101,114]⟩:ByteArray))++(⟨#[32,100,97,116,101]⟩:ByteArray)else if t.kind=0 then (⟨#[112,97,121,32,97,116,32,115,105,103,104,116]⟩:ByteArray)else if t.kind=3 then (⟨#[112,97,121,32,111,110,32]⟩:ByteArray)++(Qq t.n)else if t.kind=4 then (⟨#[112,97,121,32,97,116,32,117,115,97,110,99,101]⟩:ByteArray)else ((((⟨#[112,97,121,32]⟩:ByteArray)++(Zl t.n))++(⟨#[32,100,97,121,115]⟩:ByteArray))++(⟨#[32,97,102,116,101,114]⟩:ByteArray))++(⟨#[32,115,105,103,104,116]⟩:ByteArray)
theorem zWu (t:Tnr) (hn:yn t.n) (h1:yn (yX t.n).1) (h2:yn (yX t.n).2.1) (h3:yn (yX t.n).2.2.1):GC Tryz.prog 43 [tnG t] (sG (Qz t)):=by
 have z0:=yM hn
 have z1:=yM h1
 have z2:=yM h2
 have z3:=yM h3
 refine zA Tryz.func43 ?_
 refine gE [1,2] ?_
 refine gE [1,2,3,4] ?_
 refine gE [1,2,3,4,7] ?_
 refine zB ?_ ?_<;>intro c1<;>try simp only[toN]at c1
 ·refine gE [1,2,3,4] ?_
  refine gE [1,2,3,4,10] ?_
  refine zB ?_ ?_<;>intro c2<;>try simp only[toN]at c2
  ·refine gE [1,2,3,4] ?_
   refine gE [1,2,3,4,12] ?_
   refine gE [1,2,3,4,12,13] ?_
   refine zB ?_ ?_<;>intro c3<;>try simp only[toN]at c3
   ·refine gE [1,2,3,4] ?_
    refine gT ?_
    rw[Qz,iP c1,iP c2,iP c3];rfl
   refine gE [1,2,3,4,12,15] ?_
   refine zB ?_ ?_<;>intro c4<;>try simp only[toN]at c4
   ·refine gR [.call (Jv t.n t12 t12 t12)] [1,2,3,4] ?_ (hp:=(by simp only[zC,bb,toN,Qq,ByteArray.size_append,ZK,List.size_toArray,List.length_cons,List.length_nil];repeat' first|exact trivial|exact zH.refl _|exact rfl|omega|apply And.intro|intro _|(simp only[ByteArray.size_append,ZK,List.size_toArray,List.length_cons,List.length_nil];omega)|(simp;omega)))
    refine gT ?_
    rw[Qz,iP c1,iP c2,iQ c3,iP c4];rfl
   refine gE [1,2,3,4,21] ?_
   refine zB ?_ ?_<;>intro c5<;>try simp only[toN]at c5
   ·refine gE [1,2,3,4] ?_
    refine gT ?_
    rw[Qz,iP c1,iP c2,iQ c3,iQ c4,iP c5];rfl
   refine gR [.call (yT t.n t16)] [2] ?_ (hp:=(by simp only[zC,bb,toN,ByteArray.size_append,ZK,List.size_toArray,List.length_cons,List.length_nil];repeat' first|exact trivial|exact zH.refl _|exact rfl|omega|apply And.intro|intro _|(simp only[ByteArray.size_append,ZK,List.size_toArray,List.length_cons,List.length_nil];omega)|(simp;omega)))
   refine gT ?_
   rw[Qz,iP c1,iP c2,iQ c3,iQ c4,iQ c5];rfl
  refine gE [1,2,3,4,12] ?_
  refine gE [1,2,3,4,12,13] ?_
  refine zB ?_ ?_<;>intro c6<;>try simp only[toN]at c6
  ·refine gE [1,2,3,4] ?_
   refine gT ?_
   rw[Qz,iP c1,iQ c2,iP c6];rfl
  refine gE [1,2,3,4,12,15] ?_
  refine zB ?_ ?_<;>intro c7<;>try simp only[toN]at c7
  ·refine gR [.call (Jv t.n t12 t12 t12)] [1,2,3,4] ?_ (hp:=(by simp only[zC,bb,toN,Qq,ByteArray.size_append,ZK,List.size_toArray,List.length_cons,List.length_nil];repeat' first|exact trivial|exact zH.refl _|exact rfl|omega|apply And.intro|intro _|(simp only[ByteArray.size_append,ZK,List.size_toArray,List.length_cons,List.length_nil];omega)|(simp;omega)))
   refine gT ?_
   rw[Qz,iP c1,iQ c2,iQ c6,iP c7];rfl
  refine gE [1,2,3,4,21] ?_
  refine zB ?_ ?_<;>intro c8<;>try simp only[toN]at c8
  ·refine gE [1,2,3,4] ?_
   refine gT ?_
   rw[Qz,iP c1,iQ c2,iQ c6,iQ c7,iP c8];rfl
  refine gR [.call (yT t.n t16)] [2] ?_ (hp:=(by simp only[zC,bb,toN,ByteArray.size_append,ZK,List.size_toArray,List.length_cons,List.length_nil];repeat' first|exact trivial|exact zH.refl _|exact rfl|omega|apply And.intro|intro _|(simp only[ByteArray.size_append,ZK,List.size_toArray,List.length_cons,List.length_nil];omega)|(simp;omega)))
  refine gT ?_
  rw[Qz,iP c1,iQ c2,iQ c6,iQ c7,iQ c8];rfl
 refine gE [1,2,3,4,10] ?_
 refine zB ?_ ?_<;>intro c9<;>try simp only[toN]at c9
 ·refine gE [1,2,3,4] ?_
  refine gE [1,2,3,4,12] ?_
  refine gE [1,2,3,4,12,13] ?_
  refine zB ?_ ?_<;>intro c10<;>try simp only[toN]at c10
  ·refine gE [1,2,3,4] ?_
   refine gT ?_
   rw[Qz,iQ c1,iP c9,iP c10];rfl
  refine gE [1,2,3,4,12,15] ?_
  refine zB ?_ ?_<;>intro c11<;>try simp only[toN]at c11
  ·refine gR [.call (Jv t.n t12 t12 t12)] [1,2,3,4] ?_ (hp:=(by simp only[zC,bb,toN,Qq,ByteArray.size_append,ZK,List.size_toArray,List.length_cons,List.length_nil];repeat' first|exact trivial|exact zH.refl _|exact rfl|omega|apply And.intro|intro _|(simp only[ByteArray.size_append,ZK,List.size_toArray,List.length_cons,List.length_nil];omega)|(simp;omega)))
   refine gT ?_
   rw[Qz,iQ c1,iP c9,iQ c10,iP c11];rfl
  refine gE [1,2,3,4,21] ?_
  refine zB ?_ ?_<;>intro c12<;>try simp only[toN]at c12
  ·refine gE [1,2,3,4] ?_
   refine gT ?_
   rw[Qz,iQ c1,iP c9,iQ c10,iQ c11,iP c12];rfl
  refine gR [.call (yT t.n t16)] [2] ?_ (hp:=(by simp only[zC,bb,toN,ByteArray.size_append,ZK,List.size_toArray,List.length_cons,List.length_nil];repeat' first|exact trivial|exact zH.refl _|exact rfl|omega|apply And.intro|intro _|(simp only[ByteArray.size_append,ZK,List.size_toArray,List.length_cons,List.length_nil];omega)|(simp;omega)))
  refine gT ?_
  rw[Qz,iQ c1,iP c9,iQ c10,iQ c11,iQ c12];rfl
 refine gE [1,2,3,4,12] ?_
 refine gE [1,2,3,4,12,13] ?_
 refine zB ?_ ?_<;>intro c13<;>try simp only[toN]at c13
 ·refine gE [1,2,3,4] ?_
  refine gT ?_
  rw[Qz,iQ c1,iQ c9,iP c13];rfl
 refine gE [1,2,3,4,12,15] ?_
 refine zB ?_ ?_<;>intro c14<;>try simp only[toN]at c14
 ·refine gR [.call (Jv t.n t12 t12 t12)] [1,2,3,4] ?_ (hp:=(by simp only[zC,bb,toN,Qq,ByteArray.size_append,ZK,List.size_toArray,List.length_cons,List.length_nil];repeat' first|exact trivial|exact zH.refl _|exact rfl|omega|apply And.intro|intro _|(simp only[ByteArray.size_append,ZK,List.size_toArray,List.length_cons,List.length_nil];omega)|(simp;omega)))
  refine gT ?_
  rw[Qz,iQ c1,iQ c9,iQ c13,iP c14];rfl
 refine gE [1,2,3,4,21] ?_
 refine zB ?_ ?_<;>intro c15<;>try simp only[toN]at c15
 ·refine gE [1,2,3,4] ?_
  refine gT ?_
  rw[Qz,iQ c1,iQ c9,iQ c13,iQ c14,iP c15];rfl
 refine gR [.call (yT t.n t16)] [2] ?_ (hp:=(by simp only[zC,bb,toN,ByteArray.size_append,ZK,List.size_toArray,List.length_cons,List.length_nil];repeat' first|exact trivial|exact zH.refl _|exact rfl|omega|apply And.intro|intro _|(simp only[ByteArray.size_append,ZK,List.size_toArray,List.length_cons,List.length_nil];omega)|(simp;omega)))
 refine gT ?_
 rw[Qz,iQ c1,iQ c9,iQ c13,iQ c14,iQ c15];rfl
theorem Hb {a:List ByteArray} {z:ByteArray} (h:∀y,y∈a->y.size<=21) (hz:z.size<=21):∀y,y∈a++ [z]->y.size<=21:=fun y hy=>by
 rcases List.mem_append.1 hy with hy|hy
 ·exact h y hy
 rw[List.mem_singleton.1 hy];exact hz
theorem zMg (sep:List UInt8):∀(l:List (List UInt8)),(∀x,x∈l->x.length<=21)->(Lib.join l sep).length<=l.length*(21+sep.length):=by
 intro l
 induction l with
 |nil=>intro _;simp[Lib.join]
 |cons a l ih=>
  intro h
  have h1:=h a t25
  have h2:=ih fun x hx=>h x (List.mem_cons_of_mem _ hx)
  have h3:(l.length+1)*(21+sep.length)=l.length*(21+sep.length)+(21+sep.length):=Nat.succ_mul _ _
  cases l with
  |nil=>simp[Lib.join]at*;omega
  |cons b l=>
   have e:sep.intercalate (a::b::l)=a++(sep++sep.intercalate (b::l)):=by simp[List.intercalate]
   simp only[Lib.join,e,List.length_append,List.length_cons]at*;omega
def VE (n:Int) (not_:Int) (a5_1:List ByteArray) (k1:Nat):ByteArray:=if (k1:Int)<n then if (k1:Int)=not_ then VE n not_ a5_1 (k1+1)else VE n not_ (a5_1++ [(Zl (k1+1:Int))]) (k1+1)else (zBa a5_1 (⟨#[32,111,114,32]⟩:ByteArray))
termination_by n.toNat-k1
decreasing_by all_goals first|omega|(simp only[bb]at*;omega)
def zXa (n:Int) (not_:Int):ByteArray:=VE n not_ [] 0
theorem zWz (n:Int) (not_:Int) (h0:0<=n) (h1:n<=1000):GC Tryz.prog 44 [iG n,iG not_] (sG (zXa n not_)):=by
 refine zA Tryz.func44 ?_
 refine gE [0,1,4] ?_
 refine gE [0,1,4,5] ?_
 refine gE [1,4,5,7,8] ?_
 refine YV 5 9 1 (dF:ByteArray) zf t26 t26 ?_
 refine zI (α:=List ByteArray×Nat) (fun x=>x.2<=n.toNat/\VE n not_ [] 0=VE n not_ x.1 x.2/\x.1.length<=x.2/\(fun (a:List ByteArray) (k:Nat)=>∀y,y∈a->y.size<=21) x.1 x.2) (fun x=>[(5,.sl 0 1 0 x.1.length),(8,iG x.2)]) (fun x=>[(0,some (.row 9 1 dF zf x.1 0))]) (fun x=>n.toNat-x.2) ([],0) ⟨by (try simp only[]);omega,rfl,by first|omega|(simp;done)|(simp only[List.length_append,List.length_cons,List.length_nil,List.length_set,List.length_replicate];omega),t25⟩ ?_ (hp:=t40)
 rintro ⟨a5_1,k1⟩ ⟨hi1,he,hl_a5_1,hv1⟩
 dsimp only at*
 refine gE [1,4,5,7,8,9] ?_
 refine zB ?_ ?_<;>intro c1<;>try simp only[toN]at c1
 ·refine gE [1,4,5,6,7,8] ?_
  refine gE [1,4,5,6,7,8,13] ?_
  refine zP ?_ ?_<;>intro c2<;>try simp only[toN]at c2
  ·refine gU [.call (yT (k1+1:Int) t16),.el dF zf ([(Zl (k1+1:Int))]:List ByteArray),.el dF zf (a5_1++ [(Zl (k1+1:Int))])] [1,4,5,7,8] ?_
   refine gE [1,4,5,7,8] ?_
   refine zD ((a5_1++ [(Zl (k1+1:Int))],k1+1)) ?_ (hp:=t40) (hm:=by dsimp only;omega)
   refine ⟨by (try simp only[]);omega,he.trans ?_,by first|omega|(simp;done)|(simp only[List.length_append,List.length_cons,List.length_nil,List.length_set,List.length_replicate];omega),(by dsimp only;first|assumption|exact Hb t12 (yM (by constructor<;>omega)))⟩
   rw[VE,iP c1,iQ c2]
   try rfl
  refine gE [1,4,5,7,8] ?_
  refine zD ((a5_1,k1+1)) ?_ (hp:=t40) (hm:=by dsimp only;omega)
  refine ⟨by (try simp only[]);omega,he.trans ?_,by first|omega|(simp;done)|(simp only[List.length_append,List.length_cons,List.length_nil,List.length_set,List.length_replicate];omega),(by dsimp only;first|assumption|exact Hb t12 (yM (by constructor<;>omega)))⟩
  rw[VE,iP c1,iP c2]
  try rfl
 have hj0:=zMg [32,111,114,32] (a5_1.map bsT) (fun x hx=>by obtain ⟨y,hy,rfl⟩:=List.mem_map.1 hx;have:=hv1 y hy;simpa [bsT]using this)
 have hj:(Lib.join (a5_1.map bsT) (bsT ⟨#[32,111,114,32]⟩)).length<=140737488355328:=by rw[List.length_map]at hj0;simp only[List.length_cons,List.length_nil]at hj0;have e:bsT ⟨#[32,111,114,32]⟩= [32,111,114,32]:=rfl;rw[e];omega
 refine gR [.call (uf a5_1 (⟨#[32,111,114,32]⟩:ByteArray) t11 (by exact hj))] [4] ?_
 refine gT ?_
 rw[zXa,he,VE,iQ c1];rfl
def QT (c:Clm) (r:Rlm) (bK:Int) (f:Fil) (day:Int):Bool:=decide ((zAx r bK f c day)=1)
theorem zJc (c:Clm) (r:Rlm) (bK:Int) (f:Fil) (day:Int) (hR:RR r) (hF:FitFi f) (hp:0<=f.bill.pay/\f.bill.pay<r.bB.length):GC Tryz.prog 25 [clG c,.ep (rlC r),.ep [.sc (.int .i64 bK)],.ep (fiC f),.ep [.sc (.int .i64 day)]] (bG (QT c r bK f day)):=by
 refine zA Tryz.func25 ?_
 refine gE [1,2,3,4,5,6] ?_
 refine gR [.call (zRv r bK f c day hR (by first|assumption|exact FitFi.at_ t12 _|exact FitFi.nof t12|exact FitFi.nof (FitFi.at_ t12 _)) t12)] [6] ?_
 refine gT ?_
 rw[QT];rfl
theorem zYh (l:List Clm) (hl:l.length<=8000000000) (r:Rlm) (bK:Int) (f:Fil) (day:Int) (hR:RR r) (hF:FitFi f) (hp:0<=f.bill.pay/\f.bill.pay<r.bB.length):GM Tryz.prog 62 [.sl 0 9 0 l.length,.fn (.func 25) [] [.ep (rlC r),.ep [.sc (.int .i64 bK)],.ep (fiC f),.ep [.sc (.int .i64 day)]]] [.row 55 9 (dF:Clm) clC l 0] (iG (zQ (fun y=>QT y r bK f day) l 0)) [some (.row 55 9 (dF:Clm) clC l 0)]:=by
 refine ZX Tryz.func62 ?_
 refine gE [0,1,4] ?_
 refine gE [0,1,4,7,8] ?_
 refine zI (α:=Nat) (fun i=>i<=l.length/\zQ (fun y=>QT y r bK f day) l 0=zQ (fun y=>QT y r bK f day) (l.drop i) i) (fun i=>[(8,iG i)]) (fun _=>[]) (fun i=>l.length-i) 0 ⟨by omega,rfl⟩ ?_ (hp:=t40)
 rintro i ⟨hi,he⟩
 refine gE [0,1,4,7,8,9] ?_
 refine zB ?_ ?_<;>intro c1<;>try simp only[toN]at c1
 ·refine gE [0,1,4,5,7,8] ?_
  refine gR [.call (zJc (l.getD i dF) r bK f day hR hF hp)] [0,1,4,5,7,8,16] ?_
  refine zF ?_ ?_<;>intro c2<;>try simp only[bb,toN]at c2
  ·refine gE [0,1,4,7,8] ?_
   refine Kq env [iG (zQ (fun y=>QT y r bK f day) l 0)] (hp:= ?_)
   simp only[zC]
   rw[he,jX l i t11,zQ,iP (by exact c2)]
   simp
  refine gE [0,1,4,7,8] ?_
  refine zD (i+1) ?_ (hp:=t40)
  refine ⟨by omega,he.trans ?_⟩
  rw[jX l i t11,zQ,iQ (by rw[Bool.not_eq_true];exact c2)]
 refine gE [4] ?_
 refine Kq env [iG (zQ (fun y=>QT y r bK f day) l 0)] (hp:= ?_)
 simp only[zC]
 rw[he,show l.drop i= []from List.drop_eq_nil_of_le t11]
 simp[zQ]
theorem zBv {α:Type} (P:α->Bool):∀(l:List α) (n:Nat),(zQ P l n= -1/\l.filter (fun y=> !P y)=l)∨∃k:Nat,zQ P l n=((n+k:Nat):Int)/\k<l.length/\(l.take (k+1)).filter (fun y=> !P y)=l.take k:=by
 intro l
 induction l with
 |nil=>intro n;exact .inl ⟨rfl,rfl⟩
 |cons a l ih=>
  intro n
  rw[zQ]
  by_cases h:P a=true
  ·rw[iP h];exact .inr ⟨0,by simp,by simp,by simp[h]⟩
  rw[iQ h]
  have h':P a=false:=by simpa using h
  rcases ih (n+1)with ⟨h1,h2⟩|⟨k,h1,h2,h3⟩
  ·exact .inl ⟨h1,by rw[List.filter_cons,h',h2];rfl⟩
  exact .inr ⟨k+1,by rw[h1];congr 1;omega,by simpa using h2,by rw[List.take_succ_cons,List.filter_cons,h',h3];rfl⟩
theorem zZi (l:List Clm) (hl:l.length<=8000000000) (r:Rlm) (bK:Int) (f:Fil) (day:Int) (hR:RR r) (hF:FitFi f) (hp:0<=f.bill.pay/\f.bill.pay<r.bB.length):GM Tryz.prog 24 [.sl 0 9 0 l.length,.fn (.func 25) [] [.ep (rlC r),.ep [.sc (.int .i64 bK)],.ep (fiC f),.ep [.sc (.int .i64 day)]]] [.row 55 9 (dF:Clm) clC l 0] (.sl 1 9 0 (l.filter (fun y=> !QT y r bK f day)).length) [none,some (.row 55 9 (dF:Clm) clC (l.filter (fun y=> !QT y r bK f day)) 0)]:=by
 refine ZX Tryz.func24 ?_
 refine gE [0,1,4] ?_
 refine gR [.callm [0] (zYh l hl r bK f day hR hF hp)] [0,1,4,5] ?_
 refine gE [0,1,4,5,12] ?_
 rcases zBv (fun y=>QT y r bK f day) l 0 with ⟨h1,h2⟩|⟨i0,h1,h2,h3⟩
 ·refine zB (fun c1=> ?_) (fun c1=>absurd h1 c1)
  refine gE [4] ?_
  refine yj env [.sl 1 9 0 (l.filter (fun y=> !QT y r bK f day)).length] (hp:= ?_)
  simp only[zC,h2]
  repeat' first|exact trivial|exact rfl|(simp;done)|apply And.intro
 rw[show (0:Nat)+i0=i0 from Nat.zero_add _]at h1
 refine zB (fun c1=> ?_) (fun c1=> ?_)
 ·exact absurd (h1.symm.trans c1) t11
 rw[h1]
 refine gP [] [0,1,4,5,6] ?_
 refine zI (α:=List Clm×Nat×Nat) (fun x=>x.2.2<=l.length/\x.2.1<=x.2.2/\x.1.length=l.length/\x.1.take x.2.1=(l.take x.2.2).filter (fun y=> !QT y r bK f day)/\x.1.drop x.2.2=l.drop x.2.2) (fun x=>[(0,.sl 0 9 0 x.1.length),(5,iG x.2.1),(6,iG x.2.2)]) (fun x=>[(0,some (.row 55 9 (dF:Clm) clC (x.1) 0))]) (fun x=>l.length-x.2.2) (l,i0,i0+1) ⟨h2,Nat.le_succ _,rfl,h3.symm,rfl⟩ ?_ (hp:=t47)
 rintro ⟨R,i,j⟩ ⟨hj,hij,hR1,hR2,hR3⟩
 dsimp only at hj hij hR1 hR2 hR3⊢
 refine gE [0,1,4,5,6,19] ?_
 refine zB (fun c2=> ?_) (fun c2=> ?_)
 ·have hj2:j<l.length:=by omega
  have hRj:R.getD j dF=l.getD j dF:=by
   have:=congrArg (·[0]?) hR3
   simpa [List.getD_eq_getElem?_getD]using congrArg (fun o=>o.getD dF) this
  have ht:(l.take (j+1)).filter (fun y=> !QT y r bK f day)=(l.take j).filter (fun y=> !QT y r bK f day)++ [l.getD j dF].filter (fun y=> !QT y r bK f day):=by
   rw[List.take_succ_eq_append_getElem hj2,List.filter_append,List.getD_eq_getElem?_getD,List.getElem?_eq_getElem hj2];rfl
  have hd1:R.drop (j+1)=l.drop (j+1):=by
   have:=congrArg (List.drop 1) hR3
   simpa [List.drop_drop]using this
  refine gP [] [0,1,4,5,6,7] ?_
  refine gR [.call (zJc (R.getD j dF) r bK f day hR hF hp)] [0,1,4,5,6,7,29] ?_
  refine zF (fun c3=> ?_) (fun c3=> ?_)
  ·have c3':QT (l.getD j dF) r bK f day=false:=by rw[<-hRj];simpa using c3
   refine gR [.el dF clC (R.set i (R.getD j dF))] [0,1,4,5,6] ?_ (hp:=(by simp only[zC,bb,toN,loI,hiI,Nat.zero_add];repeat' first|exact Nat.le_refl _|exact (ZW (cs:=clC) t11 rfl t26).symm|exact trivial|exact zH.refl _|exact zE.refl _|exact rfl|omega|apply And.intro|intro _|(simp;done)))
   refine gP [] [0,1,4,5,6] ?_
   refine gP [] [0,1,4,5,6] ?_
   refine zD (R.set i (R.getD j dF),i+1,j+1) ⟨hj2,by dsimp only;omega,by simp[hR1],?_,?_⟩ (hp:=t47) (hm:=by dsimp only;omega)
   ·dsimp only
    rw[ht,show [l.getD j dF].filter (fun y=> !QT y r bK f day)= [l.getD j dF]by rw[List.filter_cons];simp only[c3'];rfl,<-hR2,hRj]
    have hi:i<R.length:=by omega
    rw[List.take_succ_eq_append_getElem (by simpa using hi),List.take_set_of_le (Nat.le_refl _)]
    simp[hi]
   dsimp only
   rw[List.drop_set_of_lt t11];exact hd1
  have c3':QT (l.getD j dF) r bK f day=true:=by rw[<-hRj];simpa using c3
  refine gP [] [0,1,4,5,6] ?_
  refine zD (R,i,j+1) ⟨hj2,by dsimp only;omega,hR1,?_,hd1⟩ (hp:=t47) (hm:=by dsimp only;omega)
  dsimp only
  rw[ht,hR2,show [l.getD j dF].filter (fun y=> !QT y r bK f day)= []by rw[List.filter_cons];simp only[c3'];rfl,List.append_nil]
 have e:j=l.length:=by omega
 rw[e,List.take_length]at hR2
 have hlen:i=(l.filter (fun y=> !QT y r bK f day)).length:=by rw[<-hR2,List.length_take];omega
 refine Jn ?_
 refine ZC env false 3 [] ?_ (hp:=by simp only[zC,bb,toN,loI,hiI];repeat' first|exact trivial|exact rfl|omega|apply And.intro|intro _)
 refine zMp env (b:=0) (es:=9) (i:=0+i) (fz:=0) (xs:=R) ?_ ⟨Nat.zero_le _,by omega⟩
 refine Yo [0,1,4,5] ?_
 refine gP [] [4] ?_
 refine yj env [.sl 1 9 0 (l.filter (fun y=> !QT y r bK f day)).length] (hp:= ?_)
 simp only[zC,Nat.zero_add,hR2,<-hlen]
 repeat' first|exact trivial|exact rfl|(simp;done)|omega|apply And.intro
def zMf (r:Rlm) (bK:Int) (f:Fil) (day:Int) (x:Clm):Clm:=if zAx r bK f x day=2 then {x with state:=2} else x
def uc (r:Rlm) (bK:Int) (f:Fil) (day:Int):List Clm:=((ZE r bK f day).filter (fun y=> !QT y r bK f day)).map (zMf r bK f day)
theorem zRt (r:Rlm) (bK:Int) (f:Fil) (day:Int) (hR:RR r) (hF:FitFi f) (hB:yY f) (hd:YB f) (hw:vK r f) (hp:0<=f.bill.pay/\f.bill.pay<r.bB.length):GC Tryz.prog 9 [rlG r,iG bK,fiG f,iG day] (.d (.row dF clC (uc r bK f day))):=by
 have hl:=zPr r bK f day hF hd
 refine zA Tryz.func9 ?_
 refine gE [4,5,6,7,8] ?_
 refine zz 0 ?_
 refine zz 1 ?_
 refine zz 2 ?_
 refine zz 3 ?_
 refine gR [.callm [] (zId r bK f day hR hF hB hd hw hp),.callm [4] (zZi (ZE r bK f day) t11 r bK f day hR hF hp)] [4,5,6,7,8,9] ?_
 obtain ⟨L,hL⟩:∃L,L=(ZE r bK f day).filter (fun y=> !QT y r bK f day):=⟨_,rfl⟩
 have hLl:L.length<=1003001000:=by rw[hL];exact Nat.le_trans (List.length_filter_le _ _) hl
 rw[<-hL]
 refine gE [4,5,6,7,8,9,19,20,21] ?_
 refine zI (α:=List Clm×Nat) (fun x=>x.2<=L.length/\x.1.length=L.length/\x.1=(L.take x.2).map (zMf r bK f day)++L.drop x.2) (fun x=>[(21,iG x.2)]) (fun x=>[(5,some (.row 55 9 (dF:Clm) clC (x.1) 0))]) (fun x=>L.length-x.2) (L,0) ⟨Nat.zero_le _,rfl,rfl⟩ ?_ (hp:=t47)
 rintro ⟨R,j⟩ ⟨hj,hR1,hR2⟩
 dsimp only at hj hR1 hR2⊢
 refine gE [4,5,6,7,8,9,19,20,21,22] ?_
 refine zB (fun c1=> ?_) (fun c1=> ?_)
 ·have hj2:j<L.length:=by omega
  have hgj:R.getD j dF=L.getD j dF:=by
   rw[hR2,List.getD_eq_getElem?_getD,List.getElem?_append_right (by simp;omega)]
   simp[Nat.min_eq_left (Nat.le_of_lt hj2),List.getD_eq_getElem?_getD]
  have hst:∀y,y=zMf r bK f day (L.getD j dF)->R.set j y=(L.take (j+1)).map (zMf r bK f day)++L.drop (j+1):=fun y hy=>by
   have e1:L.take (j+1)=L.take j++ [L.getD j dF]:=by rw[List.take_succ_eq_append_getElem hj2,List.getD_eq_getElem?_getD,List.getElem?_eq_getElem hj2];rfl
   rw[e1,List.map_append,hR2,jX L j hj2,List.append_assoc,List.set_append,iQ (by simp only[List.length_map,List.length_take];omega),hy]
   simp[Nat.min_eq_left (Nat.le_of_lt hj2)]
  refine gP [] [4,5,6,7,8,9,10,11,19,20,21] ?_
  refine gR [.call (zRv r bK f (R.getD j dF) day hR hF hp)] [4,5,6,7,8,9,10,11,19,20,21,32] ?_
  refine zB (fun c2=> ?_) (fun c2=> ?_)
  ·refine gR [.el dF clC (R.set j {R.getD j dF with state:=2})] [4,5,6,7,8,9,19,20,21] ?_ (hp:=(by simp only[zC,bb,toN,loI,hiI,Nat.zero_add];repeat' first|exact Nat.le_refl _|exact (KK t11).symm|exact trivial|exact zH.refl _|exact zE.refl _|exact rfl|omega|apply And.intro|intro _|(simp;done)))
   refine gP [] [4,5,6,7,8,9,19,20,21] ?_
   refine zD (R.set j {R.getD j dF with state:=2},j+1) ⟨hj2,by simp[hR1],hst _ ?_⟩ (hp:=t47) (hm:=by dsimp only;omega)
   rw[<-hgj,zMf,iP (show zAx r bK f (R.getD j dF) day=2 from c2)]
  refine gP [] [4,5,6,7,8,9,19,20,21] ?_
  refine zD (R,j+1) ⟨hj2,hR1,?_⟩ (hp:=t47) (hm:=by dsimp only;omega)
  have h1:=hst (R.getD j dF) (by rw[<-hgj,zMf,iQ (show ¬zAx r bK f (R.getD j dF) day=2 from c2)])
  rw[<-h1,List.getD_eq_getElem?_getD,List.getElem?_eq_getElem (show j<R.length by omega)]
  simp
 have e:j=L.length:=by omega
 rw[e,List.take_length,List.drop_length,List.append_nil]at hR2
 refine gE [8] ?_
 refine gT ?_ (hp:=by simp only[zC];repeat' first|exact hR1.symm|exact trivial|omega|apply And.intro)
 rw[uc,<-hL,<-hR2];rfl
theorem ZBs {F G:Fil} (h:G.bF=F.bF) (acc:List Clm) (a:Act):jk G acc a=jk F acc a:=by
 unfold jk XG;rw[h]
section
variable {k day:Int} {f g:Fil} (h:At k day f g) (hA:(atV g day).acts=(atV f day).acts) (r:Rlm) (bK:Int) (c:Clm)
include h hA
end
theorem zGt (f:Fil) (day:Int):(atV f day).bF.length<=f.bF.length/\∀i,i<(atV f day).bF.length->(atV f day).bF.getD i dF=f.bF.getD i dF:=by
 rw[Zb]
 exact ⟨vQ _ _,fun i hi=>Ux _ _ hi⟩
def ZP (n:Int):Prop:=0<=n/\n<=1099511627776
structure Sums (f:Fil):Prop where
 bill:ZP f.bill.sum
 bH:∀a,a∈f.bH->ZP a.sum
 bF:∀s,s∈f.bF->(s.kind=1∨s.kind=4)->ZP s.sum
 acts:∀a,a∈f.acts->(a.kind=4∨a.kind=5)->ZP a.sum
theorem Sums.at_ {f:Fil} (h:Sums f) (day:Int):Sums (atV f day):=by
 rw[Zb]
 exact ⟨h.bill,fun a ha=>h.bH a (List.mem_filter.1 ha).1,fun s hs=>h.bF s ((List.takeWhile_sublist _).subset hs),fun a ha=>h.acts a ((List.takeWhile_sublist _).subset ha)⟩
theorem ZP.zero:ZP 0:=⟨by decide,by decide⟩
theorem ZP.min {a b:Int} (ha:ZP a) (hb:ZP b):ZP (mnI a b):=by
 unfold mnI;split
 ·exact hb
 exact ha
theorem zBn {α:Type} [Inhabited α] {Q:α->Prop} {l:List α} (h:∀a,a∈l->Q a) (hd:Q dF) (i:Nat):Q (l.getD i dF):=by
 by_cases hi:i<l.length
 ·exact h _ (zJ hi)
 rw[List.getD_eq_getElem?_getD,List.getElem?_eq_none t11];exact hd
theorem zVm {f:Fil} (h:Sums f) (i:Int):ZP (jh f i):=by
 have:∀n j a,f.bH.length-j=n->ZP a->ZP (yJ f i a j):=by
  intro n
  induction n with
  |zero=>
   intro j a hn ha
   have hS:¬j<f.bH.length:=by omega
   unfold yJ;rw[iQ hS];exact ha
  |succ n ih=>
   intro j a hn ha
   have hS:j<f.bH.length:=by omega
   unfold yJ
   rw[iP hS]
   split
   ·exact ih _ _ t11 (h.bH _ (zJ hS))
   exact ih _ _ t11 ha
 exact this _ _ _ rfl h.bill
theorem ZAa (v:Bvw) (h:Sums v.f) (s:Int):ZP (qP v s).2:=by
 have h1:=zVm h s
 have h2:ZP (v.f.bH.getD ((v.f.bH.length:Int)-1).toNat dF).sum:=zBn (Q:=fun a:Alt=>ZP a.sum) h.bH ZP.zero _
 have:∀n j a,v.f.bH.length-j=n->ZP (Zx v s a j).2:=by
  intro n
  induction n with
  |zero=>
   intro j a hn
   have hS:¬j<v.f.bH.length:=by omega
   unfold Zx;rw[iQ hS]
   repeat' split
   ·exact h1
   ·exact h2
   ·exact h1.min h2
   exact h1
  |succ n ih=>
   intro j a hn
   have hS:j<v.f.bH.length:=by omega
   unfold Zx
   rw[iP hS]
   exact ih _ _ t11
 exact this _ _ _ rfl
theorem ZEs (v:Bvw) (h:Sums v.f) (s:Int):ZP (qD v s).sum:=by
 have h1:=ZAa v h s
 have h2:((v.f.bF.getD s.toNat dF).kind=1∨(v.f.bF.getD s.toNat dF).kind=4)->ZP (v.f.bF.getD s.toNat dF).sum:=zBn (Q:=fun x:Sgn=>(x.kind=1∨x.kind=4)->ZP x.sum) h.bF (fun _=>ZP.zero) _
 unfold qD QW
 split<;>split
 ·rename_i hc;exact h1.min (h2 (by simp only[bb]at hc;exact hc))
 ·exact h1
 ·rename_i hc;exact h1.min (h2 (by simp only[bb]at hc;exact hc))
 exact h1
theorem ZAh (r:Rlm) (bK:Int) (f:Fil) (s day:Int) (h:Sums f):ZP (zW r bK f s day).1.sum:=by
 unfold zW
 split
 ·exact ZP.zero
 exact ZEs _ (h.at_ day) _
theorem ZCd (a b c:Int):ZP (wa a b c).1:=by
 have h0:=yI a
 have h1:=yI b
 have h2:=yI c
 obtain ⟨m1,m2,m3,_⟩:=zFb h0 h1
 unfold wa
 split
 ·exact ZP.zero
 split
 ·exact ZP.zero
 rename_i hc
 have hn:0<=(VY (YQ (IntKind.u64.wrap a) (IntKind.u64.wrap b)).1 (YQ (IntKind.u64.wrap a) (IntKind.u64.wrap b)).2 (IntKind.u64.wrap c)).1:=by
  unfold VY
  exact Int.ediv_nonneg t11 h2.1
 generalize (VY (YQ (IntKind.u64.wrap a) (IntKind.u64.wrap b)).1 (YQ (IntKind.u64.wrap a) (IntKind.u64.wrap b)).2 (IntKind.u64.wrap c)).1=q at*
 show ZP (IntKind.i64.wrap q)
 rw[zT (by unfold inR;omega)]
 exact ⟨hn,by omega⟩
theorem ZAw (sum rate fr till:Int):ZP (zBd sum rate fr till):=by
 unfold zBd
 split
 ·exact ⟨by decide,by decide⟩
 unfold zBc
 repeat' split
 ·exact ZP.zero
 ·exact ZP.zero
 exact ZCd _ _ _
theorem ZCu {sum:Int} (h:ZP sum) (a b:Rto):ZP (XW sum a b):=by
 unfold XW
 have w1:=yI (IntKind.u64.wrap a.num*IntKind.u64.wrap b.num)
 have w2:=yI (IntKind.u64.wrap a.den*IntKind.u64.wrap b.den)
 generalize IntKind.u64.wrap (IntKind.u64.wrap a.num*IntKind.u64.wrap b.num)=K at*
 generalize IntKind.u64.wrap (IntKind.u64.wrap a.den*IntKind.u64.wrap b.den)=W at*
 split
 ·exact ZP.zero
 rename_i hc
 obtain ⟨h1,h2⟩:=h
 have e1:IntKind.u64.wrap sum=sum:=by rw[IntKind.wrap_u64];omega
 have e2:IntKind.u64.wrap (W-K)=W-K:=by rw[IntKind.wrap_u64];omega
 rw[e1,e2]
 have e3:(VY (YQ sum (W-K)).1 (YQ sum (W-K)).2 W).1=sum*(W-K)/W:=by
  simp only[VY,YQ]
  congr 1
  have:=Int.mul_ediv_add_emod (sum*(W-K)) 18446744073709551616
  omega
 rw[e3]
 have p0:0<=sum*(W-K):=Int.mul_nonneg h1 t11
 have p1:sum*(W-K)<=sum*W:=Int.mul_le_mul_of_nonneg_left t11 h1
 have q0:0<=sum*(W-K)/W:=Int.ediv_nonneg p0 t11
 have q1:sum*(W-K)/W<=sum:=Int.ediv_le_of_le_mul t11 p1
 rw[zT (by unfold inR;omega)]
 exact ⟨q0,by omega⟩
theorem ZEe (r:Rlm) (b:Bil) (city:Int) {sum:Int} (h:ZP sum) (due day:Int):ZP (VJ r b city sum due day):=by
 unfold VJ
 repeat' split
 ·exact ZP.zero
 ·exact ZP.zero
 exact ZCu h _ _
theorem ZCh (r:Rlm) (bK:Int) (f:Fil) (s day:Int) (h:Sums f):ZP (Yz r bK f s day).rest:=by
 have h0:=ZAh r bK f s day h
 have hL:∀n i a b c,(atV f day).acts.length-i=n->ZP a->ZP b->ZP c->ZP (yq r bK f s day a b i c).rest:=by
  intro n
  induction n with
  |zero=>
   intro i a b c hn ha hb hc
   have hS:¬i<(atV f day).acts.length:=by omega
   unfold yq;rw[iQ hS]
   show ZP (mnI _ _)
   generalize (zW r bK f s day).1.sum=z at*
   unfold ZP at*
   have e1:IntKind.i64.wrap (z+a)=z+a:=zT (by unfold inR;omega)
   have e2:IntKind.i64.wrap (z+a+c)=z+a+c:=zT (by unfold inR;omega)
   have e3:IntKind.i64.wrap (z+a+c+b)=z+a+c+b:=zT (by unfold inR;omega)
   rw[e1,e2,e3]
   unfold mnI;split<;>omega
  |succ n ih=>
   intro i a b c hn ha hb hc
   have hS:i<(atV f day).acts.length:=by omega
   unfold yq
   rw[iP hS]
   split
   ·rename_i hk
    have:=(h.at_ day).acts _ (zJ hS) (by simp only[bb]at hk;exact hk)
    refine ih _ _ _ _ t11 ha hb ?_
    generalize ((atV f day).acts.getD i dF).sum=z at*
    unfold ZP at*
    rw[zT (by unfold inR;omega)]
    unfold mnI;split<;>omega
   exact ih _ _ _ _ t11 ha hb hc
 unfold Yz QN jP jQ
 repeat' split
 all_goals first|exact ZP.zero|exact hL _ _ _ _ _ rfl (ZAw _ _ _ _) (ZEe _ _ _ h0 _ _) ZP.zero|exact hL _ _ _ _ _ rfl (ZAw _ _ _ _) ZP.zero ZP.zero|exact hL _ _ _ _ _ rfl ZP.zero ZP.zero ZP.zero
theorem zTt (r:Rlm) (bK:Int) (f:Fil) (day:Int) (h:Sums f):yV (Yg r bK f day):=by
 unfold Yg
 split
 ·exact fun x h=>by cases h
 refine qL yV _ _ _ (fun x h=>by cases h) fun b p _ hb=> ?_
 refine qL yV _ _ _ hb fun b o _ hb=> ?_
 refine qL yV _ _ _ hb fun b s _ hb=> ?_
 unfold WN
 split
 ·exact hb
 intro x hx
 rcases List.mem_append.1 hx with hx|hx
 ·exact hb x hx
 rw[List.mem_singleton.1 hx]
 exact ZCh r bK f s day h
theorem zPo (r:Rlm) (bK:Int) (f:Fil) (day:Int) (h:Sums f):yV (ZE r bK f day):=by
 unfold ZE
 refine qL yV _ _ _ (zTt r bK f day h) fun b a _ hb=> ?_
 unfold jk
 split
 ·exact hb
 exact XO _ _ _ hb
theorem ZDf (f:Fil):(YZ f).length<=f.bF.length+1:=by
 have h1:=Kg f
 have h2:=yH ((ldR f).mergeSort fun x y=>decide (x<=y))
 have h3:((ldR f).mergeSort fun x y=>decide (x<=y)).length=(ldR f).length:=List.length_mergeSort _
 unfold YZ
 split
 ·simp
 omega
theorem zXx (f:Fil) (day part:Int):(zK (zm f day) part).length<=f.bF.length:=by
 have h1:=UK f (zX f day).1 (zX f day).2 (Jt f part day) (Za f)
 have h2:=uz f part day
 have h3:(Za f).bF.length=0:=rfl
 show (yu f (zX f day).1 (zX f day).2 (Jt f part day) (Za f)).bF.length<=_
 omega
theorem zUq (f:Fil) (day:Int):(atV f day).bF.length<=f.bF.length/\(atV f day).acts.length<=f.acts.length:=by
 rw[Zb];exact ⟨vQ _ _,vQ _ _⟩
theorem clm_n (r:Rlm) (bK:Int) (f:Fil) (day:Int) {n:Nat} (hn:f.bF.length<=n):(Yg r bK f day).length<=(n+1)*((n+1)*n):=by
 have h0:=(zUq f day).1
 unfold Yg
 split
 ·exact Nat.zero_le _
 have hO:∀p a o,(wT r bK f day p a o).length<=a.length+n:=fun p a o=>by
  have h1:=qK (WN r bK f day p o) 1 (zCh r bK f day p o) (Zn (zm f day) p o.sign (zK (zm f day) p)) a
  have h2:=(ua (zm f day) p o.sign (zK (zm f day) p)).1
  have h3:(zm f day).now.bF.length=(atV f day).bF.length:=rfl
  unfold wT;omega
 have hP:∀a p,(vD r bK f day a p).length<=a.length+(n+1)*n:=fun a p=>by
  have h1:=qK (wT r bK f day p) n (hO p) (jq (Yd r bK f day).1 (zK (zm f day) p)) a
  have h2:=uN (Yd r bK f day).1 (Jj (zK (zm f day) p)) (zK (zm f day) p) (Hy (Yd r bK f day).1)
  have h3:=zXx f day p
  have h4:(jq (Yd r bK f day).1 (zK (zm f day) p)).length<=n+1:=by unfold jq;omega
  have h5:(jq (Yd r bK f day).1 (zK (zm f day) p)).length*n<=(n+1)*n:=Nat.mul_le_mul_right _ h4
  unfold vD;omega
 have h1:=qK (vD r bK f day) ((n+1)*n) hP (YZ (atV f day)) []
 have h2:=ZDf (atV f day)
 have h3:(YZ (atV f day)).length*((n+1)*n)<=(n+1)*((n+1)*n):=Nat.mul_le_mul_right _ t11
 have h4:([]:List Clm).length=0:=rfl
 omega
theorem run_n (r:Rlm) (bK:Int) (f:Fil) (day:Int) {n m:Nat} (hn:f.bF.length<=n) (hm:f.acts.length<=m):(ZE r bK f day).length<=(n+1)*((n+1)*n)+m*n:=by
 have h0:=clm_n r bK f day hn
 have h2:=zUq f day
 have:∀(l:List Act) (b:List Clm),qh (atV f day).bF.length (zDe f day) b->(l.foldl (jk (atV f day)) b).length<=b.length+l.length*n:=by
  intro l
  induction l with
  |nil=>intro b _;simp
  |cons a l ih=>
   intro b hb
   have h1:=vV (g:=atV f day) a hb
   have h2:=ih _ h1.1
   have h3:(l.length+1)*n=l.length*n+n:=Nat.succ_mul _ _
   simp only[List.foldl_cons,List.length_cons]
   omega
 have h1:=this (atV f day).acts _ (wP r bK f day)
 have h3:(atV f day).acts.length*n<=m*n:=Nat.mul_le_mul_right _ t11
 unfold ZE
 omega
def UpA (f:Fil):Prop:=f.acts.Pairwise fun a b=>a.day<=b.day
theorem zNk (day:Int):∀l:List Act,(l.Pairwise fun a b=>a.day<=b.day)->∀a,a∈l.dropWhile (fun x=> !decide (day<x.day))->day<a.day:=by
 intro l
 induction l with
 |nil=>intro _ a h;cases h
 |cons x l ih=>
  intro hs a h
  rw[List.dropWhile_cons]at h
  rw[List.pairwise_cons]at hs
  split at h
  ·exact ih hs.2 a h
  rename_i hx
  have hx':day<x.day:=by simpa using hx
  rcases List.mem_cons.1 h with rfl|h
  ·exact hx'
  have:=hs.1 a h;omega
theorem zVo {f:Fil} (h:UpA f) (day:Int):JO (atV f day) day=JO f day:=by
 have e:f.acts=(atV f day).acts++f.acts.dropWhile (fun x=> !decide (day<x.day)):=by rw[Zb];exact (List.takeWhile_append_dropWhile).symm
 have hd:=zNk day f.acts h
 have:∀(l:List Act) (b:List Int),(∀a,a∈l->day<a.day)->l.foldl (fun l a=>if zDp a day=true then Wl l a.at_ else l) b=b:=by
  intro l
  induction l with
  |nil=>intro b _;rfl
  |cons a l ih=>
   intro b hl
   have h1:=hl a t25
   rw[List.foldl_cons,iQ (by simp[zDp];omega)]
   exact ih b fun x hx=>hl x (List.mem_cons_of_mem _ hx)
 unfold JO
 conv=>rhs;rw[e,List.foldl_append]
 rw[this _ _ hd]
def Qc (F:Fil) (p:Act):Fil:=⟨F.bill,F.bF,F.bH,F.acts++ [p],F.facts⟩
theorem zDm {α:Type} (q:α->Bool):∀(l:List α) (a:α),a∈l.takeWhile q->q a=true:=by
 intro l
 induction l with
 |nil=>intro a h;cases h
 |cons x l ih=>
  intro a h
  rw[List.takeWhile_cons]at h
  split at h
  ·rename_i hx
   rcases List.mem_cons.1 h with rfl|h
   ·exact hx
   exact ih a h
  cases h
theorem zJu (f:Fil) (p:Act) {day:Int} (h:p.day<=day):atV (Qc (atV f day) p) day=Qc (atV f day) p:=by
 have e:=zUr f day
 have e0:=Zb (atV f day) day
 rw[e]at e0
 have e1:(atV f day).bF=upto (atV f day).bF day:=congrArg Fil.bF e0
 have e2:(atV f day).bH=(atV f day).bH.filter fun x=>decide (x.at_<=((upto (atV f day).bF day).length:Int)):=congrArg Fil.bH e0
 have e3:(atV f day).acts=(atV f day).acts.takeWhile fun x=> !decide (day<x.day):=congrArg Fil.acts e0
 have e4:(atV f day).facts=(atV f day).facts.filter fun x=>WR x.at_ (upto (atV f day).bF day).length:=congrArg Fil.facts e0
 have hall:∀a,a∈(atV f day).acts->(!decide (day<a.day))=true:=fun a ha=>by
  rw[e3]at ha
  exact zDm (fun x:Act=> !decide (day<x.day)) _ a ha
 rw[Zb (Qc (atV f day) p)]
 show (⟨(atV f day).bill,upto (atV f day).bF day,(atV f day).bH.filter _,((atV f day).acts++ [p]).takeWhile _,(atV f day).facts.filter _⟩:Fil)=_
 have ht:((atV f day).acts++ [p]).takeWhile (fun x=> !decide (day<x.day))=(atV f day).acts++ [p]:=by
  rw[List.takeWhile_append_of_pos hall,List.takeWhile_cons,iP (by simp;omega)];rfl
 rw[ht]
 show (⟨(atV f day).bill,upto (atV f day).bF day,(atV f day).bH.filter (fun x=>decide (x.at_<=((upto (atV f day).bF day).length:Int))),(atV f day).acts++ [p],(atV f day).facts.filter (fun x=>WR x.at_ (upto (atV f day).bF day).length)⟩:Fil)=⟨(atV f day).bill,(atV f day).bF,(atV f day).bH,(atV f day).acts++ [p],(atV f day).facts⟩
 rw[<-e2,<-e4,<-e1]
theorem zIh (f:Fil) (i to_ sum day:Int):∃p:Act,p=⟨6,((atV f day).bF.getD i.toNat dF).who,to_,((atV f day).bF.getD i.toNat dF).part,i,sum,day,((atV f day).bF.getD i.toNat dF).city,0⟩/\ZR f i to_ sum day=Qc (atV f day) p:=⟨_,rfl,rfl⟩
theorem zUc {F G:Fil} (a a':Int) (b b':Bool):∀(l:List Nat) (c c':Chn),(∀i,i∈l->G.bF.getD i dF=F.bF.getD i dF)->c'.bF=c.bF->c'.bM=c.bM->c'.bearer=c.bearer->(yu G a' b' l c').bF=(yu F a b l c).bF:=by
 intro l
 induction l with
 |nil=>intro c c' _ h _ _;exact h
 |cons i l ih=>
  intro c c' hl h1 h2 h3
  have e:=hl i t25
  have hb:vt G c' i=vt F c i:=by unfold vt;rw[e,h2,h3]
  rw[yu,yu,hb]
  split
  ·exact h1
  exact ih _ _ (fun j hj=>hl j (List.mem_cons_of_mem _ hj)) (by simp only[ZV,h1]) (by simp only[ZV,e]) (by simp only[ZV,e])
theorem zLy {f:Fil} (hd:YB f) (hu:UpA f) {p:Act} (hp:p.kind=6) (day part:Int):zK (zm (Qc (atV f day) p) day) part=zK (zm f day) part:=by
 have hpre:=zGt f day
 have hs:JO (Qc (atV f day) p) day=JO f day:=by
  rw[<-zVo hu]
  exact zOy (k:=0) (F:=atV f day) (G:=Qc (atV f day) p) ⟨rfl,rfl,rfl,.inr ⟨p,hp,rfl⟩,fun _ _=>rfl⟩ day
 have hEB:∀k,k<(atV f day).bF.length->UA (Qc (atV f day) p) part day k=UA f part day k:=fun k hk=>by
  have e:=hpre.2 k hk
  unfold UA
  rw[hs,show (Qc (atV f day) p).bF=(atV f day).bF from rfl,e]
 have hEN:∀k,(atV f day).bF.length<=k->k<f.bF.length->UA f part day k=false:=fun k hk hk2=>by
  have:¬(f.bF.getD k dF).day<=day:=fun hle=>by
   have:=Vt f.bF day k hd hk2 hle
   rw[Zb]at hk
   have hk':(upto f.bF day).length<=k:=hk
   omega
  unfold UA
  rw[decide_eq_false this]
  cases decide ((f.bF.getD k dF).kind=2)<;>cases decide ((f.bF.getD k dF).part=part)<;>rfl
 have hE:Jt (Qc (atV f day) p) part day=Jt f part day:=by
  unfold Jt
  obtain ⟨m,hm⟩:∃m,f.bF.length=(atV f day).bF.length+m:=⟨f.bF.length-(atV f day).bF.length,by have:=hpre.1;omega⟩
  rw[hm,List.range_add,List.filter_append]
  have e2:((List.range m).map ((atV f day).bF.length+·)).filter (UA f part day)= []:=by
   rw[List.filter_eq_nil_iff]
   intro k hk
   obtain ⟨j,hj,rfl⟩:=List.mem_map.1 hk
   have:=List.mem_range.1 hj
   rw[hEN _ t11 t11];decide
  rw[e2,List.append_nil]
  exact List.filter_congr fun k hk=>hEB k (List.mem_range.1 hk)
 show (JA (Qc (atV f day) p) part day).bF=(JA f part day).bF
 unfold JA
 rw[hE]
 have hb:(Qc (atV f day) p).bill=f.bill:=vJ f day
 refine zUc _ _ _ _ _ _ _ (fun i hi=> ?_) rfl (by unfold Za;rw[hb]) (by unfold Za;rw[hb])
 rw[<-hE]at hi
 have h0:i<(atV f day).bF.length:=Kz (f:=Qc (atV f day) p) hi
 exact hpre.2 i h0
theorem zVu {f:Fil} (hF:FitFi f) (hd:YB f) (hu:UpA f) {p:Act} (hp:p.kind=6) {day:Int} (hpd:p.day<=day):Sim (-7) day f (Qc (atV f day) p):=by
 refine ⟨?_,fun part=>zLy hd hu hp day part,fun part l hl=> ?_⟩
 ·unfold At
  rw[zJu f p hpd]
  exact ⟨rfl,rfl,rfl,.inr ⟨p,hp,rfl⟩,fun _ _=>rfl⟩
 have:=(Kf hF hd day part).2 l hl
 exact ⟨this.1,by omega⟩
theorem zZq {f:Fil} (hF:FitFi f) (hB:yY f) (hd:YB f) (hu:UpA f) {p:Act} (hp:p.kind=6) {day:Int} (hpd:p.day<=day) (r:Rlm) (bK:Int):Yg r bK (Qc (atV f day) p) day=Yg r bK f day:=by
 have hS:=zVu hF hd hu hp hpd
 have h:=clm_e hS hB r bK
 have hall:∀g:Fil,(atV g day).bF=(atV f day).bF->(Yg r bK g day).filter (fun x=>we (-7) (atV f day) x.sign)=Yg r bK g day:=fun g hg=>by
  rw[List.filter_eq_self]
  intro x hx
  have h1:=(wP r bK g day x hx).1
  rw[hg]at h1
  have h2:=zGr (hB.at_ day) h1
  unfold we
  rw[decide_eq_false t11,decide_eq_false t11];rfl
 rw[hall f rfl,hall _ hS.at_.bF]at h
 exact h
theorem zWb {f:Fil} (hF:FitFi f) (hB:yY f) (hd:YB f) (hu:UpA f) {p:Act} (hp:p.kind=6) {day:Int} (hpd:p.day<=day) (hat:0<=p.at_/\p.at_<(atV f day).bF.length) (r:Rlm) (bK:Int):
 ZE r bK (Qc (atV f day) p) day=(Ye (ZE r bK f day) p ((atV f day).bF.getD p.at_.toNat dF).kind (!((atV f day).bF.any fun y=>vN y p))).1:=by
 unfold ZE
 rw[zJu f p hpd,zZq hF hB hd hu hp hpd]
 show ((atV f day).acts++ [p]).foldl (jk (Qc (atV f day) p)) _=_
 rw[List.foldl_append]
 have e:∀(l:List Act) (b:List Clm),l.foldl (jk (Qc (atV f day) p)) b=l.foldl (jk (atV f day)) b:=fun l=>by
  induction l with
  |nil=>intro b;rfl
  |cons a l ih=>intro b;rw[List.foldl_cons,List.foldl_cons,ZBs (F:=atV f day) (G:=Qc (atV f day) p) rfl,ih]
 rw[e,e]
 show jk (atV f day) _ p=_
 have hb:XG (atV f day) p=false:=by
  unfold XG
  rw[hp,decide_eq_false (show ¬p.at_<0 by omega),decide_eq_false (show ¬((atV f day).bF.length:Int)<=p.at_ by omega)]
  rfl
 rw[jk,hb,iQ t23]
theorem Wv {r:Rlm} {f:Fil} {k:Nat} (h:Yp r f (k:Int)=true):
 ((f.bF.getD k dF).kind=0/\k=0/\(f.bF.getD k dF).who=f.bill.bP/\(f.bF.getD k dF).for_= -1/\(f.bF.getD k dF).to_= -1/\(f.bF.getD k dF).sum=0/\((f.bF.getD k dF).flags=0∨(f.bF.getD k dF).flags=1)/\(f.bF.getD k dF).part=0/\(f.bF.getD k dF).city=f.bill.city)∨
 ((f.bF.getD k dF).kind=1/\0<k/\(f.bF.getD k dF).who=f.bill.bO/\(f.bF.getD k dF).for_= -1/\(f.bF.getD k dF).to_= -1/\(1<=(f.bF.getD k dF).sum/\(f.bF.getD k dF).sum<=1099511627776)/\(f.bF.getD k dF).flags=0)∨
 ((f.bF.getD k dF).kind=2/\0<k/\(f.bF.getD k dF).for_= -1/\(-1<=(f.bF.getD k dF).to_/\(f.bF.getD k dF).to_<=IntKind.i64.wrap ((r.bC.length:Int)-1))/\(f.bF.getD k dF).sum=0/\(0<=(f.bF.getD k dF).flags/\(f.bF.getD k dF).flags<=7)/\¬((IntKind.i64.wrap ((f.bF.getD k dF).flags.tdiv 2)).tmod 2=1/\(IntKind.i64.wrap ((f.bF.getD k dF).flags.tdiv 4)).tmod 2=1))∨
 ((f.bF.getD k dF).kind=3/\0<k/\(f.bF.getD k dF).to_= -1/\(f.bF.getD k dF).sum=0/\(f.bF.getD k dF).flags=0/\Yu f (k:Int)=true/\¬(f.bF.getD (f.bF.getD k dF).for_.toNat dF).kind=3)∨
 ((f.bF.getD k dF).kind=4/\0<k/\(f.bF.getD k dF).to_= -1/\(1<=(f.bF.getD k dF).sum/\(f.bF.getD k dF).sum<=1099511627776)/\(f.bF.getD k dF).flags=0/\¬(f.bF.getD k dF).who=f.bill.bO/\Yu f (k:Int)=true/\((f.bF.getD (f.bF.getD k dF).for_.toNat dF).kind=0∨(f.bF.getD (f.bF.getD k dF).for_.toNat dF).kind=2)):=by
 unfold Yp at h
 rw[show ((k:Int)).toNat=k from rfl]at h
 split at h
 ·rename_i c0
  simp only[bb]at h
  exact .inl ⟨c0,by omega,by omega,by omega,by omega,by omega,by omega,by omega,by omega⟩
 split at h
 ·rename_i c1
  simp only[bb,ZJ]at h
  exact .inr (.inl ⟨c1,by omega,by omega,by omega,by omega,by omega,by omega⟩)
 split at h
 ·rename_i c2
  simp only[bb,ZJ]at h
  obtain ⟨⟨⟨⟨⟨h1,h2⟩,h3⟩,h4⟩,h5⟩,h6⟩:=h
  refine .inr (.inr (.inl ⟨c2,by omega,h2,h3,h4,h5,fun hx=> ?_⟩))
  rcases h6 with h6|h6
  ·exact h6 hx.1
  exact h6 hx.2
 split at h
 ·rename_i c3
  split at h
  ·cases h
  rename_i h1
  rw[Bool.not_eq_true]at h1
  simp only[bb]at h1 h
  exact .inr (.inr (.inr (.inl ⟨c3,by omega,by omega,by omega,by omega,h1.2,h⟩)))
 split at h
 ·rename_i c4
  split at h
  ·cases h
  rename_i h1
  rw[Bool.not_eq_true]at h1
  simp only[bb,ZJ]at h1 h
  exact .inr (.inr (.inr (.inr ⟨c4,by omega,by omega,by omega,by omega,by omega,h1.2,h⟩)))
 cases h
section
variable {r:Rlm} {f:Fil} (hr:FitR r) (h:Ck r f)
include hr h
theorem Ck.sg {k:Nat} (hk:k<f.bF.length):Sg12 r f k (f.bF.getD k dF):=zPd hr (qw h.bill) (h.sign k hk)
theorem Ck.backs:yY f:=fun k hk hh=>by
 have hs:=(h.sg hr hk).fits
 have hb:Yu f (k:Int)=true:=by
  rcases Wv hs with c|c|c|c|c
  ·omega
  ·omega
  ·omega
  ·exact c.2.2.2.2.2.1
  exact c.2.2.2.2.2.2.1
 have:=jd (i:=(k:Int)) t11 hb
 exact this
theorem Ck.rises:YB f:=by
 have:∀n i:Nat,i+n<f.bF.length->(f.bF.getD i dF).day<=(f.bF.getD (i+n) dF).day:=by
  intro n
  induction n with
  |zero=>intro i _;exact Int.le_refl _
  |succ n ih=>
   intro i hi
   have h1:=ih i t11
   have h2:=(h.sg hr (k:=i+(n+1)) hi).rise t11
   rw[show i+(n+1)-1=i+n by omega]at h2
   omega
 intro i j hij hj
 have:=this (j-i) i t11
 rwa[show i+(j-i)=j by omega]at this
theorem Ck.whos:vK r f:=fun s hs=>by
 obtain ⟨i,hi,rfl⟩:=List.getElem_of_mem hs
 have:=(h.sg hr hi).who
 rwa[List.getD_eq_getElem?_getD,List.getElem?_eq_getElem hi]at this
theorem Ck.act_t {k:Nat} (hk:k<f.acts.length):(0<=(f.acts.getD k dF).part/\(f.acts.getD k dF).part<=f.bill.parts-1)/\(0<=(f.acts.getD k dF).city/\(f.acts.getD k dF).city<r.bB.length)/\(0<=(f.acts.getD k dF).kind/\(f.acts.getD k dF).kind<=9)/\Zy r f (f.acts.getD k dF)=true/\f.bill.day<=(f.acts.getD k dF).day/\(f.acts.getD k dF).day<=100000/\(0<=(f.acts.getD k dF).at_->(f.bF.getD (f.acts.getD k dF).at_.toNat dF).day<=(f.acts.getD k dF).day)/\(0<k->(f.acts.getD (k-1) dF).day<=(f.acts.getD k dF).day):=by
 have hh:=h.act k hk
 have a2:=hr.bB
 have a3:=(qw h.bill).parts
 have e1:IntKind.i64.wrap (f.bill.parts-1)=f.bill.parts-1:=zT (by unfold inR;omega)
 have e3:IntKind.i64.wrap ((r.bB.length:Int)-1)=(r.bB.length:Int)-1:=zT (by unfold inR;omega)
 unfold qj at hh
 rw[e1,e3,show ((k:Int)).toNat=k from rfl]at hh
 split at hh
 ·cases hh
 rename_i h1
 have h1:wiV (f.acts.getD k dF).part 0 (f.bill.parts-1)=true:=by simpa using h1
 rw[ZJ]at h1
 split at hh
 ·cases hh
 rename_i h2
 rw[Bool.not_eq_true]at h2
 simp only[bb,ZJ]at h2
 split at hh
 ·cases hh
 rename_i h3
 split at hh
 ·cases hh
 rename_i h4
 rw[Bool.not_eq_true]at h4
 simp only[bb]at h4
 have hK:qZ r f (k:Int) 0=0->(0<k->(f.acts.getD (k-1) dF).day<=(f.acts.getD k dF).day):=fun hq hk0=>by
  unfold qZ at hq
  rw[iP (show (0:Int)<(k:Int)by omega),show (((k:Int)-1).toNat)=k-1 by omega,show ((k:Int)).toNat=k from rfl]at hq
  split at hq
  ·cases hq
  omega
 refine ⟨h1,by omega,by omega,by simpa using h3,by omega,by omega,fun hp=> ?_,?_⟩
 ·rw[iP hp]at hh
  split at hh
  ·cases hh
  omega
 split at hh
 ·split at hh
  ·cases hh
  exact hK hh
 exact hK hh
theorem Ck.upA:UpA f:=by
 have:∀n i:Nat,i+n<f.acts.length->(f.acts.getD i dF).day<=(f.acts.getD (i+n) dF).day:=by
  intro n
  induction n with
  |zero=>intro i _;exact Int.le_refl _
  |succ n ih=>
   intro i hi
   have h1:=ih i t11
   have h2:=(h.act_t hr (k:=i+(n+1)) hi).2.2.2.2.2.2.2 t11
   rw[show i+(n+1)-1=i+n by omega]at h2
   omega
 unfold UpA
 rw[List.pairwise_iff_getElem]
 intro i j hi hj hij
 have h1:=this (j-i) i t11
 rw[show i+(j-i)=j by omega]at h1
 rwa[List.getD_eq_getElem?_getD,List.getElem?_eq_getElem hi,List.getD_eq_getElem?_getD,List.getElem?_eq_getElem hj]at h1
theorem zNx {a:Act} (ha:Zy r f a=true) (hk:a.kind=4∨a.kind=5):0<=a.sum/\a.sum<=1099511627776:=by
 have h4:∀b1 b2 b3 b4,ZA r f a b1 b2 b3 b4=true->(b4=true∨a.kind=4)->0<=a.sum/\a.sum<=1099511627776:=fun b1 b2 b3 b4 hq hb=>by
  unfold ZA at hq
  split at hq
  ·simp only[bb,ZJ]at hq;omega
  rename_i c
  rcases hb with hb|hb
  ·exact absurd hb c
  rw[iP hb]at hq
  simp only[bb,ZJ]at hq;omega
 have h3:∀b1 b2,Zi r f a b1 b2=true->0<=a.sum/\a.sum<=1099511627776:=fun b1 b2 hq=>by
  unfold Zi at hq
  rw[iQ t11,iQ t11]at hq
  unfold Zh at hq
  rw[iQ t19,iQ t11]at hq
  refine h4 _ _ _ _ hq ?_
  rcases hk with hk|hk
  ·exact .inr hk
  exact .inl (decide_eq_true hk)
 have h2:∀b,Zv r f a b=true->0<=a.sum/\a.sum<=1099511627776:=fun b hq=>by
  unfold Zv at hq
  split at hq<;>exact h3 _ _ hq
 unfold Zy at ha
 split at ha
 ·cases ha
 split at ha<;>exact h2 _ ha
theorem Ck.sums:Sums f:=by
 have hb:=qw h.bill
 refine ⟨⟨by have:=hb.sum;omega,hb.sum.2⟩,fun a ha=> ?_,fun s hs hk=> ?_,fun a ha hk=> ?_⟩
 ·obtain ⟨i,hi,rfl⟩:=List.getElem_of_mem ha
  have:=(h.alt i hi).2.2
  rw[List.getD_eq_getElem?_getD,List.getElem?_eq_getElem hi]at this
  exact ⟨by have:=this.1;exact Int.le_trans t23 this,this.2⟩
 ·obtain ⟨i,hi,rfl⟩:=List.getElem_of_mem hs
  have hf:=Wv (h.sg hr hi).fits
  rw[show f.bF.getD i dF=f.bF[i]by rw[List.getD_eq_getElem?_getD,List.getElem?_eq_getElem hi];rfl]at hf
  unfold ZP
  rcases hf with c|c|c|c|c
  ·omega
  ·omega
  ·omega
  ·omega
  omega
 obtain ⟨i,hi,rfl⟩:=List.getElem_of_mem ha
 have:=(h.act_t hr hi).2.2.2.1
 rw[show f.acts.getD i dF=f.acts[i]by rw[List.getD_eq_getElem?_getD,List.getElem?_eq_getElem hi];rfl]at this
 exact zNx hr h this hk
end
theorem usn_e (r:Rlm) (a b:Int):HQ r a b=zDi r a b:=by
 have:∀n i,r.bE.length-i=n->wY r a b i=wZ r a b i:=by
  intro n
  induction n with
  |zero=>
   intro i hn
   have hS:¬i<r.bE.length:=by omega
   unfold wY wZ
   rw[iQ hS,iQ hS]
  |succ n ih=>
   intro i hn
   have hS:i<r.bE.length:=by omega
   unfold wY wZ
   rw[iP hS,iP hS,ih _ t11]
 exact this _ _ rfl
theorem ten_e {b:Bil} (h:WU b=true):UX b=true:=by
 unfold WU at h
 unfold UX
 split at h
 ·rename_i c
  simp only[bb]at c
  split
  ·exact h
  rw[iP t11];exact h
 rename_i c
 rw[Bool.not_eq_true]at c
 simp only[bb]at c
 rw[iQ c.1,iQ c.2]
 split at h
 ·rename_i c2
  simp only[bb]at c2
  split
  ·exact h
  rw[iP t11];exact h
 rename_i c2
 rw[Bool.not_eq_true]at c2
 simp only[bb]at c2
 rw[iQ c2.1,iQ c2.2]
 have hk:b.ten.kind=3:=by simp only[bb]at h;omega
 rw[iP hk]
 simp only[bb]at h⊢
 omega
theorem ZEp {r:Rlm} {b:Bil} (h:Bl10 r b):vF r b=0:=by
 have h1:=h.bP
 have h2:=h.bO
 have h3:=h.bQ
 have h4:=h.need
 have h5:=h.cur
 have h6:=h.city
 have h7:=h.pay
 have h8:=h.sum
 have h9:=h.day
 have h10:=h.rate
 have h11:=h.parts
 have h12:=h.flags
 unfold vF
 rw[iP (by rw[<-XK];exact h.realm),iQ (by rw[Bool.not_eq_true];simp only[bb,Ul];omega),iQ t30,iQ t30]
 rw[iQ]
 ·split
  ·rename_i hk;rw[usn_e];exact h.us hk
  rfl
 rw[Bool.not_eq_true]
 simp only[bb,ten_e h.ten]
 refine ⟨⟨by omega,?_⟩,trivial⟩
 by_cases hp:b.bQ= -1
 ·exact .inl (h.order hp)
 exact .inr hp
theorem zBr {k:Nat} {s:Sgn} (h1:k=0↔s.kind=0) (h2:s.kind=2∨s.to_= -1):¬(bif (!(decide ((k:Int)=0)==decide (s.kind=0)))then true else (bif (!decide (s.kind=2))then (!decide (s.to_=(-1)))else false))=true:=by
 have e:decide ((k:Int)=0)=decide (s.kind=0):=by
  by_cases q:k=0
  ·rw[decide_eq_true (h1.1 q),decide_eq_true t11]
  rw[decide_eq_false (fun x=>q (h1.2 x)),decide_eq_false t11]
 rw[e]
 rcases h2 with h2|h2
 ·rw[decide_eq_true h2];cases decide (s.kind=0)<;>exact Bool.false_ne_true
 rw[decide_eq_true h2];cases decide (s.kind=0)<;>cases decide (s.kind=2)<;>decide
theorem uu {s:Sgn} (h:s.kind=3∨s.kind=4∨s.for_= -1):¬(bif (bif (!decide (s.kind=3))then (!decide (s.kind=4))else false)then (!decide (s.for_=(-1)))else false)=true:=by
 rw[Bool.not_eq_true]
 simp only[bb]
 omega
structure Pre (f G:Fil):Prop where
 bill:G.bill=f.bill
 len:G.bF.length<=f.bF.length
 at_:∀i,i<G.bF.length->G.bF.getD i dF=f.bF.getD i dF
section
variable {r:Rlm} {f G:Fil} (hr:FitR r) (h:Ck r f) (hp:Pre f G)
include hr h hp
theorem zJk {k:Nat} (hk:k<G.bF.length) (hb:Yu f (k:Int)=true) (kinds:List Int) (hh:qv kinds (f.bF.getD (f.bF.getD k dF).for_.toNat dF).kind=true):zNr G (k:Int) kinds=true:=by
 have e:=hp.at_ k hk
 have hl:=hp.len
 have hr2:=jd (i:=(k:Int)) t11 hb
 rw[show ((k:Int)).toNat=k from rfl]at hr2
 have e2:=hp.at_ (f.bF.getD k dF).for_.toNat t11
 unfold Yu at hb
 simp only[bb,ZJ,zEy]at hb
 unfold zNr inP WV
 rw[show ((k:Int)).toNat=k from rfl]at hb⊢
 rw[e,e2]
 simp only[bb]
 exact ⟨⟨⟨hb.1.1,hb.1.2⟩,hb.2⟩,hh⟩
theorem ZEb {k:Nat} (hk:k<G.bF.length):Qp r G (k:Int)=true:=by
 have e:=hp.at_ k hk
 have hl:=hp.len
 have hb:=hp.bill
 have hs:=h.sg hr (k:=k) t11
 have hf:=Wv hs.fits
 have hd:=hs.first
 unfold Qp
 rw[show ((k:Int)).toNat=k from rfl,e,hb]
 rcases hf with c|c|c|c|c
 ·obtain ⟨c0,c1,c2,c3,c4,c5,c6,c7,c8⟩:=c
  rw[iQ (zBr t11 t11),iQ (uu t11),iP c0]
  simp only[bb,inP]
  refine ⟨⟨⟨⟨⟨c2,c5⟩,?_⟩,c7⟩,hd c1⟩,c8⟩
  rcases c6 with c6|c6<;>rw[c6]<;>decide
 ·obtain ⟨c0,c1,c2,c3,c4,c5,c6⟩:=c
  rw[iQ (zBr t11 t11),iQ (uu t11),iQ t11,iP c0]
  simp only[bb,inP]
  exact ⟨c2,⟨c5.1,c5.2⟩,c6⟩
 ·obtain ⟨c0,c1,c2,c3,c4,c5,c6⟩:=c
  rw[iQ (zBr t11 t11),iQ (uu t11),iQ t11,iQ t11,iP c0]
  simp only[bb,inP]
  refine ⟨⟨⟨⟨c3.1,c3.2⟩,c4⟩,⟨c5.1,c5.2⟩⟩,fun hx=>c6 ?_⟩
  have:(f.bF.getD k dF).flags=0∨(f.bF.getD k dF).flags=1∨(f.bF.getD k dF).flags=2∨(f.bF.getD k dF).flags=3∨(f.bF.getD k dF).flags=4∨(f.bF.getD k dF).flags=5∨(f.bF.getD k dF).flags=6∨(f.bF.getD k dF).flags=7:=by omega
  rcases this with q|q|q|q|q|q|q|q<;>rw[q]at hx⊢<;>first|(exact absurd hx t23)|decide
 ·obtain ⟨c0,c1,c2,c3,c4,c5,c6⟩:=c
  have hkd:qv [0,1,2,4] (f.bF.getD (f.bF.getD k dF).for_.toNat dF).kind=true:=by
   have hb2:=jd (i:=(k:Int)) t11 c5
   rw[show ((k:Int)).toNat=k from rfl]at hb2
   have:=Wv (h.sg hr (k:=(f.bF.getD k dF).for_.toNat) t11).fits
   rcases this with q|q|q|q|q
   ·rw[q.1];decide
   ·rw[q.1];decide
   ·rw[q.1];decide
   ·exact absurd q.1 c6
   rw[q.1];decide
  rw[iQ (zBr t11 t11),iQ (uu t11),iQ t11,iQ t11,iQ t11,iP c0]
  rw[zJk hr h hp hk c5 _ hkd]
  simp only[bb]
  exact ⟨⟨c3,c4⟩,trivial⟩
 obtain ⟨c0,c1,c2,c3,c4,c5,c6,c7⟩:=c
 have hkd:qv [0,2] (f.bF.getD (f.bF.getD k dF).for_.toNat dF).kind=true:=by
  rcases c7 with q|q<;>rw[q]<;>decide
 rw[iQ (zBr t11 t11),iQ (uu t11),iQ t11,iQ t11,iQ t11,iQ t11,iP c0]
 rw[zJk hr h hp hk c6 _ hkd]
 simp only[bb,inP]
 exact ⟨⟨⟨⟨c3.1,c3.2⟩,c4⟩,c5⟩,trivial⟩
theorem ZBo {k:Nat} (hk:k<G.bF.length):JZ r G (k:Int)=0:=by
 have e:=hp.at_ k hk
 have hl:=hp.len
 have hb:=hp.bill
 have hs:=h.sg hr (k:=k) t11
 have b10:=qw h.bill
 have a1:=hr.bC
 have a2:=hr.bB
 have a3:=b10.parts
 have a4:=b10.day
 have e1:IntKind.i64.wrap (f.bill.parts-1)=f.bill.parts-1:=zT (by unfold inR;omega)
 have e2:IntKind.i64.wrap ((r.bC.length:Int)-1)=(r.bC.length:Int)-1:=zT (by unfold inR;omega)
 have e3:IntKind.i64.wrap ((r.bB.length:Int)-1)=(r.bB.length:Int)-1:=zT (by unfold inR;omega)
 have h1:=hs.part
 have h2:=hs.who
 have h3:=hs.city
 have h4:=hs.late
 have h5:=hs.rise
 have h6:=hs.first
 have hf:=ZEb hr h hp hk
 have htk:∀i,i<k->(G.bF.take k).getD i dF=f.bF.getD i dF:=fun i hi=>by
  rw[<-hp.at_ i t11,List.getD_eq_getElem?_getD,List.getElem?_take,iP hi,List.getD_eq_getElem?_getD]
 have hL:∀n i a,k-i=n->i<=k->(a=if i=0 then f.bill.day else (f.bF.getD (i-1) dF).day)->qc r G (k:Int) a false i=0:=by
  intro n
  induction n with
  |zero=>
   intro i a hn hi ha
   have:i=k:=by omega
   subst this
   have hS:¬i<(G.bF.take ((i:Int)).toNat).length:=by rw[show ((i:Int)).toNat=i from rfl];simp;omega
   unfold qc
   rw[iQ hS,show ((i:Int)).toNat=i from rfl,e,iQ,iQ (by rw[hf];decide),iQ t23]
   rw[Bool.not_eq_true]
   simp only[bb,inP]
   split at ha<;>omega
  |succ n ih=>
   intro i a hn hi ha
   have hi2:i<k:=by omega
   have hS:i<(G.bF.take ((k:Int)).toNat).length:=by rw[show ((k:Int)).toNat=k from rfl];simp;omega
   unfold qc
   rw[iP hS,show ((k:Int)).toNat=k from rfl,e,htk i hi2]
   have hno:(bif (bif decide ((f.bF.getD k dF).kind=1)then decide ((f.bF.getD i dF).kind=1)else false)then decide ((f.bF.getD i dF).part=(f.bF.getD k dF).part)else false)=false:=by
    simp only[bb]
    by_cases q:(f.bF.getD k dF).kind=1
    ·have:=hs.once q i hi2
     by_cases q2:(f.bF.getD i dF).kind=1
     ·exact .inr fun q3=>this ⟨q2,q3⟩
     exact .inl (.inr q2)
    exact .inl (.inl q)
   rw[hno]
   exact ih (i+1) _ t11 t11 (by rw[iQ t11,show i+1-1=i by omega])
 unfold JZ
 rw[show ((k:Int)).toNat=k from rfl,e,hb,e1,e2,e3,iQ t35,iQ t38]
 exact hL _ 0 _ rfl (Nat.zero_le _) rfl
end
def wn (f:Fil) (a:Act):Prop:=(0<=a.at_/\a.at_<=(f.bF.length:Int)-1)/\(a.at_=0∨(f.bF.getD a.at_.toNat dF).part=a.part)
def qi (f:Fil) (a:Act):Prop:=wn f a/\(f.bF.getD a.at_.toNat dF).who=a.who
def qa (r:Rlm) (a:Act):Prop:=0<=a.to_/\a.to_<=(r.bC.length:Int)-1
def zVe (r:Rlm) (f:Fil) (a:Act):Prop:=(0<=a.who/\a.who<=(r.bC.length:Int)-1)∧
 ((a.kind=0∨a.kind=1∨a.kind=2)/\qa r a/\a.at_= -1/\a.sum=0/\a.form=0∨
  (a.kind=3∨a.kind=5)/\qa r a/\a.at_= -1/\(0<=a.sum/\a.sum<=1099511627776)/\a.form=0∨
  a.kind=4/\qa r a/\a.at_= -1/\(0<=a.sum/\a.sum<=1099511627776)/\(a.form=0∨a.form=1)∨
  a.kind=6/\qa r a/\qi f a/\(1<=a.sum/\a.sum<=1099511627776)/\a.form=0∨
  a.kind=9/\a.to_= -1/\qi f a/\a.sum=0/\a.form=0∨
  (a.kind=7∨a.kind=8)/\a.to_= -1/\wn f a/\a.sum=0/\a.form=0)
theorem zNz {r:Rlm} {f:Fil} {a:Act} (hr:FitR r) (h:Zy r f a=true):zVe r f a:=by
 have a1:=hr.bC
 have e2:IntKind.i64.wrap ((r.bC.length:Int)-1)=(r.bC.length:Int)-1:=zT (by unfold inR;omega)
 have K:∀b own:Bool,(b=true->wn f a)->(own=true->qi f a)->Zi r f a b own=true→
  ((a.kind=0∨a.kind=1∨a.kind=2)/\qa r a/\a.at_= -1/\a.sum=0/\a.form=0∨
  (a.kind=3∨a.kind=5)/\qa r a/\a.at_= -1/\(0<=a.sum/\a.sum<=1099511627776)/\a.form=0∨
  a.kind=4/\qa r a/\a.at_= -1/\(0<=a.sum/\a.sum<=1099511627776)/\(a.form=0∨a.form=1)∨
  a.kind=6/\qa r a/\qi f a/\(1<=a.sum/\a.sum<=1099511627776)/\a.form=0∨
  a.kind=9/\a.to_= -1/\qi f a/\a.sum=0/\a.form=0∨
  (a.kind=7∨a.kind=8)/\a.to_= -1/\wn f a/\a.sum=0/\a.form=0):=by
  intro b own hb ho h
  have K4:∀j j',ZA r f a b own j j'=true->(j'=true↔(a.kind=3∨a.kind=5))->¬(a.kind=0∨a.kind=1∨a.kind=2)→
   ((a.kind=3∨a.kind=5)/\qa r a/\a.at_= -1/\(0<=a.sum/\a.sum<=1099511627776)/\a.form=0∨
   a.kind=4/\qa r a/\a.at_= -1/\(0<=a.sum/\a.sum<=1099511627776)/\(a.form=0∨a.form=1)∨
   a.kind=6/\qa r a/\qi f a/\(1<=a.sum/\a.sum<=1099511627776)/\a.form=0∨
   a.kind=9/\a.to_= -1/\qi f a/\a.sum=0/\a.form=0∨
   (a.kind=7∨a.kind=8)/\a.to_= -1/\wn f a/\a.sum=0/\a.form=0):=by
   intro j j' h hj hn
   unfold ZA at h
   split at h
   ·rename_i c
    simp only[bb,ZJ]at h
    exact .inl ⟨hj.1 c,⟨h.1.1.1.1,h.1.1.1.2⟩,h.1.1.2,h.1.2,h.2⟩
   rename_i c
   have c':¬(a.kind=3∨a.kind=5):=fun x=>c (hj.2 x)
   split at h
   ·rename_i c4
    simp only[bb,ZJ]at h
    exact .inr (.inl ⟨c4,⟨h.1.1.1.1,h.1.1.1.2⟩,h.1.1.2,h.1.2,h.2⟩)
   split at h
   ·rename_i c6
    simp only[bb,ZJ]at h
    exact .inr (.inr (.inl ⟨c6,⟨h.1.1.1.1.1,h.1.1.1.1.2⟩,ho h.1.1.1.2,by omega,h.2⟩))
   split at h
   ·rename_i c9
    simp only[bb]at h
    exact .inr (.inr (.inr (.inl ⟨c9,h.1.1.1,ho h.1.1.2,h.1.2,h.2⟩)))
   split at h
   ·rename_i c7
    simp only[bb]at h
    exact .inr (.inr (.inr (.inr ⟨.inl c7,h.1.1.1,hb h.1.1.2,h.1.2,h.2⟩)))
   split at h
   ·rename_i c8
    simp only[bb]at h
    exact .inr (.inr (.inr (.inr ⟨.inr c8,h.1.1.1,hb h.1.1.2,h.1.2,h.2⟩)))
   cases h
  have K3:∀j,Zh r f a b own j=true->(j=true↔(a.kind=0∨a.kind=1∨a.kind=2))→
   ((a.kind=0∨a.kind=1∨a.kind=2)/\qa r a/\a.at_= -1/\a.sum=0/\a.form=0∨
   (a.kind=3∨a.kind=5)/\qa r a/\a.at_= -1/\(0<=a.sum/\a.sum<=1099511627776)/\a.form=0∨
   a.kind=4/\qa r a/\a.at_= -1/\(0<=a.sum/\a.sum<=1099511627776)/\(a.form=0∨a.form=1)∨
   a.kind=6/\qa r a/\qi f a/\(1<=a.sum/\a.sum<=1099511627776)/\a.form=0∨
   a.kind=9/\a.to_= -1/\qi f a/\a.sum=0/\a.form=0∨
   (a.kind=7∨a.kind=8)/\a.to_= -1/\wn f a/\a.sum=0/\a.form=0):=by
   intro j h hj
   unfold Zh at h
   split at h
   ·rename_i c
    simp only[bb,ZJ]at h
    exact .inl ⟨hj.1 c,⟨h.1.1.1.1,h.1.1.1.2⟩,h.1.1.2,h.1.2,h.2⟩
   rename_i c
   have c':¬(a.kind=0∨a.kind=1∨a.kind=2):=fun x=>c (hj.2 x)
   split at h
   ·rename_i c3
    exact .inr (K4 _ _ h t19 c')
   rename_i c3
   exact .inr (K4 _ _ h t19 c')
  unfold Zi at h
  split at h
  ·exact K3 _ h t19
  split at h
  ·exact K3 _ h t19
  exact K3 _ h t19
 have K1:∀b,(b=true->wn f a)->Zv r f a b=true->_:=fun b hb h=>by
  unfold Zv at h
  split at h
  ·rename_i c
   exact K _ _ hb (fun ho=>⟨hb c,by simpa using ho⟩) h
  exact K _ _ hb (fun ho=>by cases ho) h
 unfold Zy at h
 split at h
 ·cases h
 rename_i hw
 have hw:wiV a.who 0 ((r.bC.length:Int)-1)=true:=by simpa using hw
 rw[ZJ]at hw
 refine ⟨hw,?_⟩
 split at h
 ·rename_i c
  rw[ZJ]at c
  refine K1 _ (fun hb=>⟨c,?_⟩) h
  unfold zEy at hb
  simpa [bb]using hb
 rename_i c
 exact K1 _ (fun hb=>absurd hb c) h
theorem act_P {r:Rlm} {f:Fil} {a:Act} (h:zVe r f a):VZ r f a=true:=by
 obtain ⟨hw,h⟩:=h
 have hA:wn f a->(bif (inP a.at_ 0 ((f.bF.length:Int)-1))then (WV f a.at_ a.part)else false)=true:=fun q=>by
  unfold inP WV
  simp only[bb]
  exact ⟨q.1,q.2⟩
 have hO:qi f a->(bif (bif (inP a.at_ 0 ((f.bF.length:Int)-1))then (WV f a.at_ a.part)else false)then decide ((f.bF.getD a.at_.toNat dF).who=a.who)else false)=true:=fun q=>by
  rw[hA q.1,decide_eq_true q.2];rfl
 have hT:qa r a->inP a.to_ 0 ((r.bC.length:Int)-1)=true:=fun q=>by
  unfold inP;simp only[bb];exact q
 have hW:inP a.who 0 ((r.bC.length:Int)-1)=true:=by unfold inP;simp only[bb];exact hw
 have hS:(0<=a.sum/\a.sum<=1099511627776)->inP a.sum 0 1099511627776=true:=fun q=>by unfold inP;simp only[bb];exact q
 unfold VZ
 rw[iQ (by rw[Bool.not_eq_true];simp only[bb,hW];refine ⟨trivial,?_⟩;rcases h with h|h|h|h|h|h<;>omega)]
 rcases h with ⟨hk,h1,h2,h3,h4⟩|⟨hk,h1,h2,h3,h4⟩|⟨hk,h1,h2,h3,h4⟩|⟨hk,h1,h2,h3,h4⟩|⟨hk,h1,h2,h3,h4⟩|⟨hk,h1,h2,h3,h4⟩
 ·have:∀j,j=true->Zt r f a j=true:=fun j hj=>by
   unfold Zt
   rw[iP hj,hT h1,decide_eq_true h2,decide_eq_true h3];rfl
  rcases hk with hk|hk|hk
  ·rw[iP hk];exact this _ (decide_eq_true hk)
  ·rw[iQ t11,iP hk];exact this _ (decide_eq_true hk)
  rw[iQ t11,iQ t11];exact this _ (decide_eq_true hk)
 ·have h5:inP a.form 0 1=true:=by unfold inP;simp only[bb];omega
  have:∀j,Zz r f a j true=true:=fun j=>by
   unfold Zz
   rw[iP rfl,hT h1,decide_eq_true h2,hS h3,h5];rfl
  rw[iQ t11,iQ t11]
  unfold Zt
  rw[iQ t19]
  rcases hk with hk|hk
  ·rw[iP hk,decide_eq_true hk];exact this _
  rw[iQ t11,iP hk,decide_eq_true hk];exact this _
 ·have h5:inP a.form 0 1=true:=by unfold inP;simp only[bb];omega
  rw[iQ t11,iQ t11]
  unfold Zt
  rw[iQ t19,iQ t11,iQ t11]
  unfold Zz
  rw[iP (decide_eq_true hk),hT h1,decide_eq_true h2,hS h3,h5];rfl
 ·rw[iQ t11,iQ t11]
  unfold Zt
  rw[iQ t19,iQ t11,iQ t11]
  unfold Zz
  rw[iQ t19,iP hk,hT h1,hO h2]
  unfold inP
  simp only[bb];exact ⟨⟨trivial,trivial⟩,h3⟩
 ·rw[iQ t11,iQ t11]
  unfold Zt
  rw[iQ t19,iQ t11,iQ t11]
  unfold Zz
  rw[iQ t19,iQ t11,iP hk,hO h2,decide_eq_true h1,decide_eq_true h3];rfl
 rw[iQ t11,iQ t11]
 unfold Zt
 rw[iQ t19,iQ t11,iQ t11]
 unfold Zz
 rw[iQ t19,iQ t11,iQ t11,hA h2,decide_eq_true h1,decide_eq_true h3];rfl
theorem zIf {α:Type} [Inhabited α] (R:α->α->Prop) (ht:∀a b c,R a b->R b c->R a c) (l:List α) (h:∀k,0<k->k<l.length->R (l.getD (k-1) dF) (l.getD k dF)):l.Pairwise R:=by
 have:∀n i:Nat,i+(n+1)<l.length->R (l.getD i dF) (l.getD (i+(n+1)) dF):=by
  intro n
  induction n with
  |zero=>intro i hi;have:=h (i+1) t11 hi;rwa[show i+1-1=i by omega]at this
  |succ n ih=>
   intro i hi
   have h1:=ih i t11
   have h2:=h (i+(n+1+1)) t11 hi
   rw[show i+(n+1+1)-1=i+(n+1)by omega]at h2
   exact ht _ _ _ h1 h2
 rw[List.pairwise_iff_getElem]
 intro i j hi hj hij
 have h1:=this (j-i-1) i t11
 rw[show i+(j-i-1+1)=j by omega]at h1
 rwa[List.getD_eq_getElem?_getD,List.getElem?_eq_getElem hi,List.getD_eq_getElem?_getD,List.getElem?_eq_getElem hj]at h1
theorem zIg {α:Type} [Inhabited α] {R:α->α->Prop} {l:List α} (h:l.Pairwise R) {k:Nat} (h0:0<k) (hk:k<l.length):R (l.getD (k-1) dF) (l.getD k dF):=by
 rw[List.pairwise_iff_getElem]at h
 have:=h (k-1) k t11 hk t11
 rwa[List.getD_eq_getElem?_getD,List.getElem?_eq_getElem t11,List.getD_eq_getElem?_getD,List.getElem?_eq_getElem hk]
structure ActK (r:Rlm) (f:Fil) (k:Nat) (a:Act):Prop where
 part:0<=a.part/\a.part<=f.bill.parts-1
 city:0<=a.city/\a.city<r.bB.length
 kind:0<=a.kind/\a.kind<=9
 fits:zVe r f a
 first:f.bill.day<=a.day
 late:a.day<=100000
 sign:a.at_≠-1->(f.bF.getD a.at_.toNat dF).day<=a.day
 prev:0<k->(f.acts.getD (k-1) dF).day<=a.day
theorem KS {a b c:Int} (h1:a<=c) (h2:b<=c):mxI a b<=c:=by unfold mxI;split<;>assumption
theorem ZEw {r:Rlm} {f:Fil} (hr:FitR r) (hb:Bl10 r f.bill) (h:∀k,k<f.acts.length->ActK r f k (f.acts.getD k dF)):Qv r f=0:=by
 have a2:=hr.bB
 have a3:=hb.parts
 have e1:IntKind.i64.wrap (f.bill.parts-1)=f.bill.parts-1:=zT (by unfold inR;omega)
 have e3:IntKind.i64.wrap ((r.bB.length:Int)-1)=(r.bB.length:Int)-1:=zT (by unfold inR;omega)
 have:∀n i,f.acts.length-i=n->Zp r f i=0:=by
  intro n
  induction n with
  |zero=>
   intro i hn
   have hS:¬i<f.acts.length:=by omega
   unfold Zp;rw[iQ hS]
  |succ n ih=>
   intro i hn
   have hS:i<f.acts.length:=by omega
   have hk:=h i hS
   have q1:=hk.part
   have q2:=hk.city
   have q3:=hk.kind
   have q4:=act_P hk.fits
   have q5:=hk.first
   have q6:=hk.late
   have q7:=hk.sign
   have q8:=hk.prev
   have hi:=ih (i+1) t11
   have e0:((i:Int)-1).toNat=i-1:=by omega
   unfold Zp
   rw[iP hS,e1,e3,e0,iQ t35,iQ t38,iQ (by rw[q4];decide),hi]
   split
   ·split
    ·rw[iQ (by rw[zL.2 ⟨(KS q5 (q8 t11)),q6⟩];decide)]
    rw[iQ (by rw[zL.2 ⟨q5,q6⟩];decide)]
   rename_i hne
   split
   ·rw[iQ (by rw[zL.2 ⟨(KS (KS q5 (q7 hne)) (q8 t11)),q6⟩];decide)]
   rw[iQ (by rw[zL.2 ⟨(KS q5 (q7 hne)),q6⟩];decide)]
 exact this _ _ rfl
def zOa (a b:Fct):Prop:=a.at_<b.at_∨a.at_=b.at_/\a.kind<b.kind
theorem zTs {a b:Int} (h:a<b):jz a b= -1:=by
 unfold jz zFa
 rw[decide_eq_true (rfl:a=a),decide_eq_true (rfl:b=b),iQ t23,iQ t23,iP h]
theorem ZEm {a b:Int} (h:a=b):jz a b=0:=by
 subst h
 unfold jz zFa
 rw[decide_eq_true (rfl:a=a),iQ t23,iQ t23,iQ t11,iQ t11]
theorem zZb {f:Fil} (hl:f.bF.length<=1000) (h:∀x,x∈f.facts->(0<=x.kind/\x.kind<=4)/\(0<=x.at_/\x.at_<=(f.bF.length:Int)-1)/\(0<=x.n/\x.n<=1)) (hp:f.facts.Pairwise zOa):Js f=0:=by
 have e1:IntKind.i64.wrap ((f.bF.length:Int)-1)=(f.bF.length:Int)-1:=zT (by unfold inR;omega)
 have:∀n i,f.facts.length-i=n->yk f i=0:=by
  intro n
  induction n with
  |zero=>
   intro i hn
   have hS:¬i<f.facts.length:=by omega
   unfold yk;rw[iQ hS]
  |succ n ih=>
   intro i hn
   have hS:i<f.facts.length:=by omega
   have q:=h _ (zJ hS)
   have hi:=ih (i+1) t11
   have e0:((i:Int)-1).toNat=i-1:=by omega
   unfold yk
   rw[iP hS,e1,e0,iQ t38,hi]
   split
   ·rfl
   rename_i h0
   have hlt:=zIg hp (k:=i) t11 hS
   have ho:orV [jz (f.facts.getD (i-1) dF).at_ (f.facts.getD i dF).at_,jz (f.facts.getD (i-1) dF).kind (f.facts.getD i dF).kind]= -1:=by
    rcases hlt with hlt|⟨h1,h2⟩
    ·rw[zTs hlt]
     unfold orV uP
     rw[iP t25]
     show (if (-1:Int)=0 then _ else _)=_
     rw[iQ t23];rfl
    rw[ZEm h1,zTs h2]
    unfold orV uP
    rw[iP t25]
    show (if (0:Int)=0 then uP [0,-1] 1 else _)=_
    rw[iP rfl]
    unfold uP
    rw[iP t25]
    show (if (-1:Int)=0 then _ else _)=_
    rw[iQ t23];rfl
   rw[ho,iQ t23]
 exact this _ _ rfl
theorem ZEv {r:Rlm} {f:Fil} (hl:f.bF.length<=1000) (h:∀a,a∈f.bH->(1<=a.at_/\a.at_<=f.bF.length)/\(1<=a.sum/\a.sum<=1099511627776)) (hp:f.bH.Pairwise fun a b=>a.at_<b.at_) (ha:Qv r f=0) (hf:Js f=0) (k1:Nat):Yq r f k1 0 0=0:=by
 have:∀n i a,f.bH.length-i=n->(a=if 0<i then (f.bH.getD (i-1) dF).at_ else 0)->(i<=f.bH.length)->Yq r f k1 a i=0:=by
  intro n
  induction n with
  |zero=>
   intro i a hn _ _
   have hS:¬i<f.bH.length:=by omega
   unfold Yq;rw[iQ hS,iP ha,hf]
  |succ n ih=>
   intro i a hn hia _
   have hS:i<f.bH.length:=by omega
   have q:=h _ (zJ hS)
   have hi:=ih (i+1) _ t11 (show (f.bH.getD i dF).at_=_ by rw[iP t11,show i+1-1=i by omega]) t11
   have hlo:0<=a/\a<=1000/\a+1<=(f.bH.getD i dF).at_:=by
    split at hia
    ·rename_i h0
     have q2:=h _ (zJ (l:=f.bH) (i:=i-1) t11)
     have q3:=zIg hp h0 hS
     omega
    omega
   have e0:IntKind.i64.wrap (a+1)=a+1:=zT (by unfold inR;omega)
   unfold Yq
   rw[iP hS,e0,iQ t35,iQ t35,hi]
 exact this _ 0 0 rfl t25 (Nat.zero_le _)
theorem zTx {r:Rlm} {f:Fil} (hr:FitR r) (h:Ck r f) (hc:f.acts.length<100) {day:Int} (hd:day<=100000) {p:Act} (hk:p.kind=6) (hf:p.form=0) (hpd:p.day=day) (hto:qa r p) (hs:1<=p.sum/\p.sum<=1099511627776)
 (hat:0<=p.at_/\p.at_<(atV f day).bF.length) (hwho:p.who=((atV f day).bF.getD p.at_.toNat dF).who) (hpart:p.part=((atV f day).bF.getD p.at_.toNat dF).part) (hcity:p.city=((atV f day).bF.getD p.at_.toNat dF).city):vq r (Qc (atV f day) p)=0:=by
 have hpre0:=zGt f day
 obtain ⟨G,hG⟩:∃G,G=Qc (atV f day) p:=⟨_,rfl⟩
 have hp:Pre f G:=by rw[hG];exact ⟨vJ f day,hpre0.1,hpre0.2⟩
 have b10:=qw h.bill
 have hGb:G.bill=f.bill:=hp.bill
 have hGs:G.bF=(atV f day).bF:=by rw[hG];rfl
 have hl:=hp.len
 have hls:=h.ls
 have hri:=h.rises hr
 have hpr:=b10.parts
 have hup:∀i,i<f.bF.length->(f.bF.getD i dF).day<=day->i<G.bF.length:=fun i hi hle=>by
  rw[hGs,Zb];exact Vt f.bF day i hri hi hle
 have hdl:∀i,i<G.bF.length->(f.bF.getD i dF).day<=day:=fun i hi=>by
  have e:=hp.at_ i hi
  rw[<-e]
  rw[hGs,Zb]at hi⊢
  have hm:(upto f.bF day).getD i dF∈upto f.bF day:=zJ hi
  have:=zDm _ _ _ hm
  simpa using this
 rw[<-hG]
 have hA:∀a:Act,a.at_<G.bF.length->zVe r f a->zVe r G a:=fun a ha hq=>by
  have e:∀(_:0<=a.at_),G.bF.getD a.at_.toNat dF=f.bF.getD a.at_.toNat dF:=fun h0=>hp.at_ _ t11
  have hat2:wn f a->wn G a:=fun q=>by
   refine ⟨⟨q.1.1,by omega⟩,?_⟩
   rw[e q.1.1];exact q.2
  have hown:qi f a->qi G a:=fun q=>⟨hat2 q.1,by rw[e q.1.1.1];exact q.2⟩
  obtain ⟨hw,hq⟩:=hq
  refine ⟨hw,?_⟩
  rcases hq with q|q|q|⟨q1,q2,q3,q4⟩|⟨q1,q2,q3,q4⟩|⟨q1,q2,q3,q4⟩
  ·exact .inl q
  ·exact .inr (.inl q)
  ·exact .inr (.inr (.inl q))
  ·exact .inr (.inr (.inr (.inl ⟨q1,q2,hown q3,q4⟩)))
  ·exact .inr (.inr (.inr (.inr (.inl ⟨q1,q2,hown q3,q4⟩))))
  exact .inr (.inr (.inr (.inr (.inr ⟨q1,q2,hat2 q3,q4⟩))))
 have hac:(atV f day).acts=f.acts.takeWhile fun x=> !decide (day<x.day):=by rw[Zb]
 have hacl:(atV f day).acts.length<=f.acts.length:=(zUq f day).2
 have hacg:∀k,k<(atV f day).acts.length->(atV f day).acts.getD k dF=f.acts.getD k dF:=fun k hk=>by
  obtain ⟨t,ht⟩:=List.takeWhile_prefix (l:=f.acts) fun x:Act=> !decide (day<x.day)
  rw[<-hac]at ht
  conv=>rhs;rw[<-ht]
  rw[List.getD_eq_getElem?_getD,List.getD_eq_getElem?_getD,List.getElem?_append_left hk]
 have hacd:∀k,k<(atV f day).acts.length->(f.acts.getD k dF).day<=day:=fun k hk=>by
  rw[<-hacg k hk]
  have hm:(atV f day).acts.getD k dF∈(atV f day).acts:=zJ hk
  rw[hac]at hm
  have:=zDm _ _ _ hm
  rw[<-hac]at this
  simpa using this
 have hGa:G.acts=(atV f day).acts++ [p]:=by rw[hG];rfl
 have hK:∀k,k<G.acts.length->ActK r G k (G.acts.getD k dF):=fun k hkG=>by
  have hkl:k<=(atV f day).acts.length:=by rw[hGa]at hkG;simp at hkG;omega
  have hprev:0<k->k-1<(atV f day).acts.length->(G.acts.getD (k-1) dF)=f.acts.getD (k-1) dF:=fun h0 h1=>by
   rw[hGa,List.getD_eq_getElem?_getD,List.getElem?_append_left h1,<-hacg _ h1,List.getD_eq_getElem?_getD]
  by_cases hkk:k<(atV f day).acts.length
  ·have e:G.acts.getD k dF=f.acts.getD k dF:=by
    rw[hGa,List.getD_eq_getElem?_getD,List.getElem?_append_left hkk,<-hacg _ hkk,List.getD_eq_getElem?_getD]
   rw[e]
   obtain ⟨q1,q2,q3,q4,q5,q6,q7,q8⟩:=h.act_t hr (k:=k) t11
   have hcc:=zNz hr q4
   have hd1:=hacd k hkk
   have hlt:(f.acts.getD k dF).at_<G.bF.length:=by
    by_cases h0:0<=(f.acts.getD k dF).at_
    ·have hfl:(f.acts.getD k dF).at_<f.bF.length:=by
      obtain ⟨_,hq⟩:=hcc
      rcases hq with q|q|q|⟨_,_,q3,_⟩|⟨_,_,q3,_⟩|⟨_,_,q3,_⟩
      ·omega
      ·omega
      ·omega
      ·have:=q3.1.1;omega
      ·have:=q3.1.1;omega
      have:=q3.1;omega
     have:=hup (f.acts.getD k dF).at_.toNat t11 (by have:=q7 h0;omega)
     omega
    omega
   refine ⟨by rw[hGb];exact q1,q2,q3,hA _ hlt hcc,by rw[hGb];exact q5,q6,fun hne=> ?_,fun h0=> ?_⟩
   ·have h0:0<=(f.acts.getD k dF).at_:=by
     obtain ⟨_,hq⟩:=hcc
     rcases hq with q|q|q|⟨_,_,q3,_⟩|⟨_,_,q3,_⟩|⟨_,_,q3,_⟩
     ·omega
     ·omega
     ·omega
     ·exact q3.1.1.1
     ·exact q3.1.1.1
     exact q3.1.1
    rw[hp.at_ _ t11];exact q7 h0
   rw[hprev h0 t11];exact q8 h0
  have ek:k=(atV f day).acts.length:=by omega
  have e:G.acts.getD k dF=p:=by
   rw[hGa,ek,List.getD_eq_getElem?_getD,List.getElem?_append_right (Nat.le_refl _)];simp
  rw[e]
  have hsi:p.at_.toNat<G.bF.length:=by rw[hGs];omega
  have hsg:=h.sg hr (k:=p.at_.toNat) t11
  have hge:(atV f day).bF.getD p.at_.toNat dF=f.bF.getD p.at_.toNat dF:=hpre0.2 _ t11
  rw[hge]at hwho hpart hcity
  have hs0:=hdl _ hsi
  have hw:=hsg.who
  have hb0:f.bill.day<=day:=by
   have h1:=(h.sg hr (k:=0) h.ne).first rfl
   have h2:=hri 0 p.at_.toNat (Nat.zero_le _) t11
   omega
  refine ⟨by rw[hGb,hpart];exact hsg.part,by rw[hcity];exact hsg.city,by omega,⟨by rw[hwho];omega,.inr (.inr (.inr (.inl ⟨hk,hto,⟨⟨⟨hat.1,by rw[hGs];omega⟩,.inr ?_⟩,?_⟩,hs,hf⟩)))⟩,by rw[hGb,hpd];exact hb0,by omega,fun _=> ?_,fun h0=> ?_⟩
  ·rw[hp.at_ _ hsi];exact hpart.symm
  ·rw[hp.at_ _ hsi];exact hwho.symm
  ·rw[hp.at_ _ hsi,hpd];exact hs0
  rw[hprev h0 t11,hpd];exact hacd _ t11
 have hacts:Qv r G=0:=ZEw hr (by rw[hGb];exact b10) hK
 have hGf:G.facts=f.facts.filter fun x=>WR x.at_ (upto f.bF day).length:=by rw[hG];show (atV f day).facts=_;rw[Zb]
 have hGl:G.bF.length=(upto f.bF day).length:=by rw[hGs,Zb]
 have hfc:∀k,k<f.facts.length->((0<=(f.facts.getD k dF).kind/\(f.facts.getD k dF).kind<=4)/\(0<=(f.facts.getD k dF).at_/\(f.facts.getD k dF).at_<=(f.bF.length:Int)-1)/\(0<=(f.facts.getD k dF).n/\(f.facts.getD k dF).n<=1))/\(0<k->zOa (f.facts.getD (k-1) dF) (f.facts.getD k dF)):=fun k hk=>by
  have hh:=h.fact k hk
  have e1:IntKind.i64.wrap ((f.bF.length:Int)-1)=(f.bF.length:Int)-1:=zT (by unfold inR;omega)
  unfold qO at hh
  rw[e1,show ((k:Int)).toNat=k from rfl]at hh
  split at hh
  ·cases hh
  rename_i h1
  rw[Bool.not_eq_true]at h1
  simp only[bb,ZJ]at h1
  refine ⟨by omega,fun h0=> ?_⟩
  rw[iP (show (0:Int)<(k:Int)by omega),show ((k:Int)-1).toNat=k-1 by omega]at hh
  split at hh
  ·cases hh
  rename_i h2
  rw[Bool.not_eq_true]at h2
  simp only[bb]at h2
  unfold zOa;omega
 have hfp:f.facts.Pairwise zOa:=zIf zOa (fun a b c=>by unfold zOa;omega) _ fun k h0 hk=>(hfc k hk).2 h0
 have hfacts:Js G=0:=by
  refine zZb t11 (fun x hx=> ?_) ?_
  ·rw[hGf]at hx
   obtain ⟨h1,h2⟩:=List.mem_filter.1 hx
   obtain ⟨i,hi,rfl⟩:=List.getElem_of_mem h1
   have:=(hfc i hi).1
   rw[show f.facts.getD i dF=f.facts[i]by rw[List.getD_eq_getElem?_getD,List.getElem?_eq_getElem hi];rfl]at this
   unfold WR at h2
   simp only[bb]at h2
   omega
  rw[hGf];exact hfp.filter _
 have hGt:G.bH=f.bH.filter fun x=>decide (x.at_<=((upto f.bF day).length:Int)):=by rw[hG];show (atV f day).bH=_;rw[Zb]
 have hap:f.bH.Pairwise fun a b=>a.at_<b.at_:=zIf _ (fun a b c=>by omega) _ fun k h0 hk=>by
  have:=(h.alt k hk).1
  rw[iP h0]at this
  omega
 have halts:∀k1,Yq r G k1 0 0=0:=by
  refine ZEv t11 (fun a ha=> ?_) ?_ hacts hfacts
  ·rw[hGt]at ha
   obtain ⟨h1,h2⟩:=List.mem_filter.1 ha
   obtain ⟨i,hi,rfl⟩:=List.getElem_of_mem h1
   have:=h.alt i hi
   rw[show f.bH.getD i dF=f.bH[i]by rw[List.getD_eq_getElem?_getD,List.getElem?_eq_getElem hi];rfl]at this
   have h3:1<=f.bH[i].at_:=by
    by_cases h0:0<i
    ·have h4:∀n j,j<=n->j<f.bH.length->1<=(f.bH.getD j dF).at_:=by
      intro n
      induction n with
      |zero=>
       intro j hj hjl
       have:=(h.alt j hjl).1
       rw[iQ t11]at this;exact this
      |succ n ih=>
       intro j hj hjl
       have:=(h.alt j hjl).1
       split at this
       ·have:=ih (j-1) t11 t11;omega
       exact this
     have:=h4 i i (Nat.le_refl _) hi
     rwa[show f.bH.getD i dF=f.bH[i]by rw[List.getD_eq_getElem?_getD,List.getElem?_eq_getElem hi];rfl]at this
    have:=this.1
    rw[iQ h0]at this;exact this
   have h5:f.bH[i].at_<=((upto f.bF day).length:Int):=by simpa using h2
   exact ⟨⟨h3,by omega⟩,this.2.2⟩
  rw[hGt];exact hap.filter _
 have hsl:∀n i,G.bF.length-i=n->i<=G.bF.length->jc r G i=0:=by
  intro n
  induction n with
  |zero=>
   intro i hn hi
   have hS:¬i<G.bF.length:=by omega
   unfold jc;rw[iQ hS];exact halts _
  |succ n ih=>
   intro i hn hi
   have hS:i<G.bF.length:=by omega
   unfold jc
   rw[iP hS,iP (ZBo hr h hp hS)]
   exact ih _ t11 t11
 have hlal:G.bH.length<=4:=by rw[hGt];exact Nat.le_trans (List.length_filter_le _ _) h.la
 have hlfc:G.facts.length<=200:=by rw[hGf];exact Nat.le_trans (List.length_filter_le _ _) h.lf
 have hlac:G.acts.length<=100:=by rw[hGa];simp;omega
 have hne:0<G.bF.length:=by rw[hGs];omega
 unfold vq
 rw[iQ t30,iP (by rw[hGb];exact ZEp b10),iQ t11]
 exact hsl _ 0 rfl (Nat.zero_le _)
theorem Hz {a b:Int} (h:orE a b=0):a=0/\b=0:=by
 unfold orE at h
 split at h
 ·rename_i h1;exact ⟨h1,h⟩
 rename_i h1;exact absurd h h1
theorem Kw {l:List ByteArray} {most:Int} {fine:Nat->Bool} (h:zY l most fine=0):∀i,i<l.length->fine i=true:=by
 have:∀n i,l.length-i=n->zd l fine i=0->∀j,i<=j->j<l.length->fine j=true:=by
  intro n
  induction n with
  |zero=>intro i hn _ j h1 h2;omega
  |succ n ih=>
   intro i hn h j h1 h2
   have hS:i<l.length:=by omega
   unfold zd at h
   rw[iP hS]at h
   split at h
   ·split at h
    ·rename_i hf
     by_cases hj:j=i
     ·rw[hj];exact hf
     exact ih _ t11 h j t11 h2
    cases h
   rename_i hne;exact absurd h hne
 unfold zY at h
 split at h
 ·cases h
 exact fun i hi=>this _ 0 rfl h i (Nat.zero_le _) hi
theorem Wm {i n:Int} :inV i n=true↔0<=i/\i<n:=by unfold inV;simp only[bb]
theorem ZEn {l:List Cho} (h:wU l 0=true):∀c,c∈l->0<=c.by_/\c.by_<5:=by
 have:∀n i,l.length-i=n->wU l i=true->∀j,i<=j->j<l.length->0<=(l.getD j dF).by_/\(l.getD j dF).by_<5:=by
  intro n
  induction n with
  |zero=>intro i hn _ j h1 h2;omega
  |succ n ih=>
   intro i hn h j h1 h2
   have hS:i<l.length:=by omega
   unfold wU at h
   rw[iP hS]at h
   split at h
   ·rename_i hf
    rw[Wm]at hf
    by_cases hj:j=i
    ·rw[hj];exact hf
    exact ih _ t11 h j t11 h2
   cases h
 intro c hc
 obtain ⟨i,hi,rfl⟩:=List.getElem_of_mem hc
 have:=this _ 0 rfl h i (Nat.zero_le _) hi
 rwa[List.getD_eq_getElem?_getD,List.getElem?_eq_getElem hi]at this
theorem rtF_t {r:Rlm} (h:rtF r 0=true):∀x,x∈r.rates->WX r x=false:=by
 have:∀n i,r.rates.length-i=n->rtF r i=true->∀j,i<=j->j<r.rates.length->WX r (r.rates.getD j dF)=false:=by
  intro n
  induction n with
  |zero=>intro i hn _ j h1 h2;omega
  |succ n ih=>
   intro i hn h j h1 h2
   have hS:i<r.rates.length:=by omega
   unfold rtF at h
   rw[iP hS]at h
   split at h
   ·cases h
   rename_i hf
   by_cases hj:j=i
   ·rw[hj];simpa using hf
   exact ih _ t11 h j t11 h2
 intro c hc
 obtain ⟨i,hi,rfl⟩:=List.getElem_of_mem hc
 have:=this _ 0 rfl h i (Nat.zero_le _) hi
 rwa[List.getD_eq_getElem?_getD,List.getElem?_eq_getElem hi]at this
theorem htF_t {r:Rlm} (h:htF r 0=true):∀x,x∈r.halts->Wo r x=false:=by
 have:∀n i,r.halts.length-i=n->htF r i=true->∀j,i<=j->j<r.halts.length->Wo r (r.halts.getD j dF)=false:=by
  intro n
  induction n with
  |zero=>intro i hn _ j h1 h2;omega
  |succ n ih=>
   intro i hn h j h1 h2
   have hS:i<r.halts.length:=by omega
   unfold htF at h
   rw[iP hS]at h
   split at h
   ·cases h
   rename_i hf
   by_cases hj:j=i
   ·rw[hj];simpa using hf
   exact ih _ t11 h j t11 h2
 intro c hc
 obtain ⟨i,hi,rfl⟩:=List.getElem_of_mem hc
 have:=this _ 0 rfl h i (Nat.zero_le _) hi
 rwa[List.getD_eq_getElem?_getD,List.getElem?_eq_getElem hi]at this
theorem zWl {r:Rlm} (hr:FitR r) (h:ZS r=0):RightR r:=by
 rw[XK]at h
 unfold YO at h
 obtain ⟨_,h⟩:=Hz h
 obtain ⟨hc,h⟩:=Hz h
 have hc:=Kw hc
 split at h
 ·cases h
 split at h
 ·obtain ⟨hf,h⟩:=Hz h
  obtain ⟨ho,h⟩:=Hz h
  obtain ⟨_,h⟩:=Hz h
  have hf:=Kw hf
  have ho:=Kw ho
  unfold WZ at h
  split at h
  ·cases h
  split at h
  ·rename_i h1
   split at h
   ·cases h
   split at h
   ·rename_i h2
    have h1:=rtF_t h1
    have h2:=htF_t h2
    refine ⟨hr,HJ (Q:=fun o:Od=>∀c,c∈o.bL->0<=c.by_/\c.by_<5) fun i hi=> ?_,fun o hq=>(hr.order o hq).2,HJ (Q:=fun c:Cty=>0<=c.ord/\c.ord<r.bD.length/\0<=c.cur/\c.cur<r.bA.length) fun i hi=> ?_,HJ (Q:=fun c:Frm=>0<=c.city/\c.city<r.bB.length) fun i hi=> ?_,fun x hx=> ?_,fun x hx=> ?_⟩
    ·have:=ho i (by unfold orderN;simpa using hi)
     unfold qe at this
     split at this
     ·rename_i hq;exact ZEn hq
     cases this
    ·have:=hc i (by unfold cityN;simpa using hi)
     unfold ja at this
     split at this
     ·split at this
      ·cases this
      rename_i hq
      rw[Bool.not_eq_true]at hq
      unfold vE at hq
      simp only[bb,Wm]at hq
      omega
     cases this
    ·have:=hf i (by unfold firmN;simpa using hi)
     unfold wj at this
     simp only[bb,Wm]at this
     exact this.1
    ·have:=h1 x hx
     unfold WX at this
     simp only[bb,Wm]at this
     omega
    have:=h2 x hx
    unfold Wo at this
    simp only[bb,Wm]at this
    omega
   cases h
  cases h
 cases h
structure Good (r:Rlm) (f:Fil):Prop where
 rr:RR r
 fi:FitFi f
 ck:Ck r f
 s20:f.bF.length<=20
 a30:f.acts.length<=30
theorem Wx {r:Rlm} {f:Fil} (hm:MemX r) (h:zBw r f=true):Good r f:=by
 unfold zBw at h
 simp only[bb]at h
 obtain ⟨⟨⟨⟨h1,h2⟩,h3⟩,h4⟩,h5⟩:=h
 obtain ⟨hr,hF⟩:=jV hm h1
 exact ⟨⟨zWl hr h2,fun o ho=>⟨(hr.order o ho).2.1,(hr.order o ho).2.2,zTd hm h1 o ho⟩⟩,hF,zZu h3,by omega,by omega⟩
def FgI (f:Fil) (s:Int) (n:Nat) (b:Fil):Prop:=b.bill=f.bill/\b.bF=f.bF/\b.bH=f.bH/\b.acts=f.acts/\b.facts.length<=300+n/\∀i,i≠s->b.facts.filter (fun x=>decide (x.at_=i))=f.facts.filter (fun x=>decide (x.at_=i))
theorem FgI.start {f:Fil} (hF:f.facts.length<=300) (s:Int):FgI f s 0 ⟨f.bill,f.bF,f.bH,f.acts,f.facts.filter fun x=> !decide (x.at_=s)⟩:=by
 refine ⟨rfl,rfl,rfl,rfl,Nat.le_trans (List.length_filter_le _ _) t11,fun i hi=> ?_⟩
 show (f.facts.filter _).filter _=_
 rw[List.filter_filter]
 refine List.filter_congr fun a _=> ?_
 by_cases q:a.at_=i
 ·rw[decide_eq_true q,decide_eq_false (show ¬a.at_=s by omega)];rfl
 rw[decide_eq_false q];rfl
theorem FgI.fit {f:Fil} {s:Int} {n:Nat} {b:Fil} (h:FgI f s n b) (hn:n<=100) (hF:FitFi f):FitFi b:=by
 obtain ⟨h1,h2,h3,h4,h5,_⟩:=h
 exact ⟨h2▸hF.bF,h3▸hF.bH,h4▸hF.acts,by omega⟩
theorem FgI.more {f:Fil} {s:Int} {n:Nat} {b:Fil} (h:FgI f s n b) {r:Rlm} (hB:yY f) (hd:YB f) (hw:vK r f) (hp:0<=f.bill.pay/\f.bill.pay<r.bB.length):yY b/\YB b/\vK r b/\0<=b.bill.pay/\b.bill.pay<r.bB.length:=by
 obtain ⟨h1,h2,_⟩:=h
 unfold yY YB vK
 rw[h1,h2]
 exact ⟨hB,hd,hw,hp⟩
def Ja (q:Int):Rul:=⟨q,1,1,[]⟩
theorem Vb (q:Int):GC Tryz.prog 35 [iG q] (rulG (Ja q)):=by
 refine zA Tryz.func35 ?_
 refine gE [0,2] ?_
 refine gE [2] ?_
 refine Zq env ?_
 exact Ent.agg ⟨Ent.refl _,Ent.refl _,Ent.refl _,Ent.nil,trivial⟩
def ZN:Rlm:=⟨[(⟨#[100]⟩:ByteArray)],[⟨(⟨#[97]⟩:ByteArray),0,0,[],[],[]⟩],[0],[⟨(⟨#[102,48]⟩:ByteArray),0,0⟩,⟨(⟨#[102,49]⟩:ByteArray),0,0⟩,⟨(⟨#[102,50]⟩:ByteArray),0,0⟩,⟨(⟨#[102,51]⟩:ByteArray),0,0⟩],[⟨(⟨#[111]⟩:ByteArray),false,[],[Ja 0,Ja 1,Ja 2,Ja 3]⟩],[],[],[]⟩
def zN:Fil:=⟨⟨0,1,2,1000,0,⟨2,30,0⟩,100,0,0,-1,0,0,1⟩,[⟨0,0,0,-1,-1,0,100,0,0⟩,⟨1,0,1,-1,-1,1000,101,0,0⟩,⟨2,0,2,-1,3,0,102,0,0⟩],[],[⟨2,3,1,0,-1,0,130,0,0⟩],[]⟩
theorem t18 {p:Prop} (h:p:=by simp only[zC,Int.toNat_natCast];repeat' first|exact trivial|exact zH.refl _|exact zE.refl _|exact rfl|omega|apply And.intro|intro _|(simp[zR];done)|(simp only[List.length_append,List.length_cons,List.length_nil];omega)|(simp[*];done)|(simp[zN];done)):p:=h
def nlD:D:= .sc (.slice none 0 0)
def ctN (c:Cty):List D:=[.sc (.string c.name),.sc (.int .i64 c.ord),.sc (.int .i64 c.cur),nlD,nlD,nlD]
def odN (o:Od):List D:=[.sc (.string o.name),.sc (.bool o.acc),nlD,.row dF zEd o.rules]
theorem zRk:GM Tryz.prog 17 [] [] (.tup [rlG ZN,(.agg [iG zN.bill.bP,iG zN.bill.bO,iG zN.bill.bQ,iG zN.bill.sum,iG zN.bill.cur,iG zN.bill.ten.kind,iG zN.bill.ten.n,iG zN.bill.ten.unit,iG zN.bill.day,iG zN.bill.city,iG zN.bill.pay,iG zN.bill.need,iG zN.bill.rate,iG zN.bill.flags,iG zN.bill.parts,.d (.row dF sgC zN.bF),.d (.row dF alC zN.bH),.sl 0 9 0 1,.d (.row dF fcC zN.facts)])]) [some (.row 66 9 dF acC zN.acts 0)]:=by
 refine GM.ent (g:= .tup [(.agg [.d (.row dF zf ZN.bA),.d (.row dF ctN ZN.bB),.d (.row dF inC ZN.groups),.d (.row dF fmC ZN.bC),.d (.row dF odN ZN.bD),.d nlD,.d nlD,.d nlD]),(.agg [iG zN.bill.bP,iG zN.bill.bO,iG zN.bill.bQ,iG zN.bill.sum,iG zN.bill.cur,iG zN.bill.ten.kind,iG zN.bill.ten.n,iG zN.bill.ten.unit,iG zN.bill.day,iG zN.bill.city,iG zN.bill.pay,iG zN.bill.need,iG zN.bill.rate,iG zN.bill.flags,iG zN.bill.parts,.d (.row dF sgC zN.bF),.d nlD,.sl 0 9 0 1,.d nlD])]) ?_ (Ent.tup ⟨Ent.agg ⟨Ent.refl _,Ent.rowEnt fun x hx=>by (rw[List.mem_singleton.1 hx];exact ⟨wA.refl _,wA.refl _,wA.refl _,wA.nil,wA.nil,wA.nil,trivial⟩),Ent.refl _,Ent.refl _,Ent.rowEnt fun x hx=>by (rw[List.mem_singleton.1 hx];exact ⟨wA.refl _,wA.refl _,wA.nil,wA.refl _,trivial⟩),Ent.nil,Ent.nil,Ent.nil,trivial⟩,Ent.agg ⟨Ent.refl _,Ent.refl _,Ent.refl _,Ent.refl _,Ent.refl _,Ent.refl _,Ent.refl _,Ent.refl _,Ent.refl _,Ent.refl _,Ent.refl _,Ent.refl _,Ent.refl _,Ent.refl _,Ent.refl _,Ent.refl _,Ent.nil,Ent.refl _,Ent.nil,trivial⟩,trivial⟩)
 refine ZX Tryz.func17 ?_
 refine gE [0,1] ?_
 refine gE [0,1,2] ?_
 refine Jn ?_
 refine ZC env false 15 [.el dF zf ZN.bA,.el dF ctN ZN.bB,.el dF inC ZN.groups,.el dF fmC ZN.bC,.call (Vb 0),.call (Vb 1),.call (Vb 2),.call (Vb 3),.el dF zEd ([Ja 0,Ja 1,Ja 2,Ja 3]:List Rul)] ?_
 refine zYo 6 ?_
 refine ZC env false 5 [.el dF odN ZN.bD] ?_
 refine Yo [0,1,2,3] ?_
 refine gE [0,1,2,3,4] ?_
 refine gR [.el dF sgC zN.bF,.el dF sgC zN.bF] [0,1,2,3,4] ?_ (hp:=t18)
 refine gR [.el dF acC zN.acts,.el dF acC zN.acts] [0,1,3,4] ?_ (hp:=t18)
 refine jB 2 ?_
 refine jB 3 ?_
 refine jB 4 ?_
 refine jB 5 ?_
 refine jB 7 ?_
 refine jB 11 ?_
 refine gE [0,1] ?_
 refine zYu env [(0,13)] [(.agg [.d (.row dF zf ZN.bA),.d (.row dF ctN ZN.bB),.d (.row dF inC ZN.groups),.d (.row dF fmC ZN.bC),.d (.row dF odN ZN.bD),.d nlD,.d nlD,.d nlD]),(.agg [iG zN.bill.bP,iG zN.bill.bO,iG zN.bill.bQ,iG zN.bill.sum,iG zN.bill.cur,iG zN.bill.ten.kind,iG zN.bill.ten.n,iG zN.bill.ten.unit,iG zN.bill.day,iG zN.bill.city,iG zN.bill.pay,iG zN.bill.need,iG zN.bill.rate,iG zN.bill.flags,iG zN.bill.parts,.d (.row dF sgC zN.bF),.d nlD,.sl 0 9 0 1,.d nlD])] (hp:= ?_)
 simp only[zC]
 repeat' first|exact trivial|exact rfl|(simp;done)|omega|apply And.intro
def zUi:Go.Shelf.Ren:=⟨fun|240=>75|276=>122|169=>45|n=>n,fun|0=>0|3=>3|4=>4|5=>5|9=>9|20=>20|37=>107|70=>106|72=>109|127=>150|164=>200|n=>n,fun n=>n⟩
theorem ZAz:Go.Proofs.Lays.n240 Tryz.prog zUi:= {
 mixed:=by kernel_rfl
 f240:=Tryz.func75.trans (congrArg some (by kernel_rfl))
 f276:=Tryz.func122.trans (congrArg some (by kernel_rfl))
 t0:=Tryz.underlying0
 a0:=Tryz.isAgg0
 z0:=Tryz.sizeOf0
 v0:=Tryz.zeroValue0
 t4:=Tryz.underlying4
 a4:=Tryz.isAgg4
 z4:=Tryz.sizeOf4
 v4:=Tryz.zeroValue4
 t9:=Tryz.underlying9
 a9:=Tryz.isAgg9
 z9:=Tryz.sizeOf9
 v9:=Tryz.zeroValue9
 t20:=Tryz.underlying20
 a20:=Tryz.isAgg20
 z20:=Tryz.sizeOf20
 v20:=Tryz.zeroValue20
 t70:=Tryz.underlying106
 a70:=Tryz.isAgg106
 z70:=Tryz.sizeOf106
 v70:=Tryz.zeroValue106
 t72:=Tryz.underlying109
 a72:=Tryz.isAgg109
 z72:=Tryz.sizeOf109
 v72:=Tryz.zeroValue109
 t164:=Tryz.underlying200
 a164:=Tryz.isAgg200
 z164:=Tryz.sizeOf200
 v164:=Tryz.zeroValue200}
theorem bl169:Go.Proofs.Lays.n169 Tryz.prog zUi:= {
 mixed:=by kernel_rfl
 f169:=Tryz.func45.trans (congrArg some (by kernel_rfl))
 t0:=Tryz.underlying0
 a0:=Tryz.isAgg0
 z0:=Tryz.sizeOf0
 v0:=Tryz.zeroValue0
 t3:=Tryz.underlying3
 a3:=Tryz.isAgg3
 z3:=Tryz.sizeOf3
 v3:=Tryz.zeroValue3
 t9:=Tryz.underlying9
 a9:=Tryz.isAgg9
 z9:=Tryz.sizeOf9
 v9:=Tryz.zeroValue9
 t37:=Tryz.underlying107
 a37:=Tryz.isAgg107
 z37:=Tryz.sizeOf107
 v37:=Tryz.zeroValue107
 t70:=Tryz.underlying106
 a70:=Tryz.isAgg106
 z70:=Tryz.sizeOf106
 v70:=Tryz.zeroValue106
 t72:=Tryz.underlying109
 a72:=Tryz.isAgg109
 z72:=Tryz.sizeOf109
 v72:=Tryz.zeroValue109
 t127:=Tryz.underlying150
 a127:=Tryz.isAgg150
 z127:=Tryz.sizeOf150
 v127:=Tryz.zeroValue150}
theorem blX:Go.Proofs.Builder.Extra Tryz.prog zUi:= {
 sizeBuilder:=by kernel_rfl
 liesBuilder:=by kernel_rfl
 t5:=Tryz.underlying5
 a5:=Tryz.isAgg5
 z5:=Tryz.sizeOf5
 v5:=Tryz.zeroValue5
 infoByte:=by kernel_rfl
 cellsByte:=by kernel_rfl
 sizeByte:=by kernel_rfl
 neB5:=by decide}
theorem ZEr:GM Tryz.prog 75 [.ptr 0 0 0 0] [.tbx 109 [.pointer none,.slice none 0 0]] (.tup []) [some (.box [.ptr 0 0 0 0,.d (.sc (.slice none 0 0))])]:=
 ZDy Tryz.func75 rfl rfl fun b w h0 h1 h2=>Go.Proofs.Any.Builder_copyCheck_fresh ZAz blX.toX72 b w h0 h1 h2
theorem ZEq (xs:List UInt8):GM Tryz.prog 75 [.ptr 0 0 0 0] [.box [.ptr 0 0 0 0,.sl 1 1 0 xs.length],.row 5 1 (dF:UInt8) byC xs 0] (.tup []) [some (.box [.ptr 0 0 0 0,.sl 1 1 0 xs.length]),some (.row 5 1 (dF:UInt8) byC xs 0)]:=
 ZDx Tryz.func75 rfl rfl fun b w h0=>Go.Proofs.Any.Builder_copyCheck_used ZAz blX.toX72 b w h0
theorem ZAc (xs:List UInt8) (hx:xs≠ []):GM Tryz.prog 45 [.ptr 0 0 0 0] [.box [.ptr 0 0 0 0,.sl 1 1 0 xs.length],.row 5 1 (dF:UInt8) byC xs 0] (.d (.sc (.string ⟨xs.toArray⟩))) [none,none]:=
 ZDw Tryz.func45 rfl rfl (fun _=>rfl) hx fun b g cap T p cur w h1 h2 h3 h4 h5 h6=>zUg bl169 blX xs hx b g cap T p cur w h1 h2 h3 h4 h5 h6
theorem byC_L (l:List UInt8) (s:ByteArray):zR byC (l++s.data.toList)=zR byC l++yp s:=by
 unfold zR yp
 rw[List.map_append];rfl
theorem ZBe (s:ByteArray) (hs:s.size<=1000000):GM Tryz.prog 38 [.ptr 0 0 0 0,.d (.sc (.string s))] [.tbx 109 [.pointer none,.slice none 0 0]] (.tup [.junk,.junk]) [some (.box [.ptr 0 0 0 0,.sl 1 1 0 s.data.toList.length]),some (.row 5 1 (dF:UInt8) byC s.data.toList 0)]:=by
 refine ZX Tryz.func38 ?_
 refine gE [0,1,4,5] ?_
 refine gR [.callm [0] ZEr] [0,1,4,5] ?_
 refine Jn ?_
 refine ZC env false 6 [] ?_
 refine zBi env (df:=(dF:UInt8)) (cs:=byC) s.data.toList ?_ rfl t11
 refine ZC env false 3 [] ?_
 refine Yo [1,4,5] ?_
 refine gE [4,5] ?_
 refine yj env [.junk,.junk] (hp:= ?_)
 (try simp only[zC]);repeat' first|exact trivial|exact rfl|(simp;done)|omega|apply And.intro
theorem ZBd (xs:List UInt8) (s:ByteArray) (hs:xs.length+s.size<=1000000):GM Tryz.prog 38 [.ptr 0 0 0 0,.d (.sc (.string s))] [.box [.ptr 0 0 0 0,.sl 1 1 0 xs.length],.row 5 1 (dF:UInt8) byC xs 0] (.tup [.junk,.junk]) [some (.box [.ptr 0 0 0 0,.sl 2 1 0 (xs++s.data.toList).length]),none,some (.row 5 1 (dF:UInt8) byC (xs++s.data.toList) 0)]:=by
 refine ZX Tryz.func38 ?_
 refine gE [0,1,4,5] ?_
 refine gR [.callm [0,1] (ZEq xs)] [0,1,4,5] ?_
 refine Jn ?_
 refine ZC env false 6 [] ?_
 refine zBh env (df:=(dF:UInt8)) (cs:=byC) (xs++s.data.toList) ?_ (byC_L xs s) rfl t11
 refine ZC env false 3 [] ?_
 refine Yo [1,4,5] ?_
 refine gE [4,5] ?_
 refine yj env [.junk,.junk] (hp:= ?_)
 (try simp only[zC]);repeat' first|exact trivial|exact rfl|(simp;done)|omega|apply And.intro
def yS (ws:List ByteArray):ByteArray:=zBa ws ⟨#[32]⟩++⟨#[10]⟩
theorem zRo (ws:List ByteArray) (hw:ws.length<=1000) (hj:(Lib.join (ws.map bsT) (bsT ⟨#[32]⟩)).length<=1000) (hl:(yS ws).size<=1000000):GM Tryz.prog 37 [bG true,.d (.row dF zf ws),.ptr 0 0 0 0] [.tbx 109 [.pointer none,.slice none 0 0]] (.tup []) [some (.box [.ptr 0 0 0 0,.sl 1 1 0 (yS ws).data.toList.length]),some (.row 5 1 (dF:UInt8) byC (yS ws).data.toList 0)]:=by
 have hA:(zBa ws ⟨#[32]⟩).size+(⟨#[10]⟩:ByteArray).size<=9223372036854775807:=by have h:=hl;unfold yS at h;rw[ByteArray.size_append]at h;omega
 refine ZX Tryz.func37 ?_
 refine gE [1,2,5] ?_
 refine zF (b:=true) (fun c=> ?_) (fun c=>Bool.noConfusion c)
 refine gR [.call (uf ws ⟨#[32]⟩ t11 t11),.callm [0] (ZBe (yS ws) hl)] [2] ?_ (hp:=by simp only[zC,bb,toN];repeat' first|exact trivial|exact zH.refl _|exact zE.refl _|exact rfl|exact hA|omega|apply And.intro)
 refine Kr env [] (hp:= ?_)
 (try simp only[zC]);repeat' first|exact trivial|exact rfl|(simp;done)|omega|apply And.intro
theorem zRn (xs:List UInt8) (ws:List ByteArray) (hw:ws.length<=1000) (hj:(Lib.join (ws.map bsT) (bsT ⟨#[32]⟩)).length<=1000) (hl:xs.length+(yS ws).size<=1000000):GM Tryz.prog 37 [bG true,.d (.row dF zf ws),.ptr 0 0 0 0] [.box [.ptr 0 0 0 0,.sl 1 1 0 xs.length],.row 5 1 (dF:UInt8) byC xs 0] (.tup []) [some (.box [.ptr 0 0 0 0,.sl 2 1 0 (xs++(yS ws).data.toList).length]),none,some (.row 5 1 (dF:UInt8) byC (xs++(yS ws).data.toList) 0)]:=by
 have hA:(zBa ws ⟨#[32]⟩).size+(⟨#[10]⟩:ByteArray).size<=9223372036854775807:=by have h:=hl;unfold yS at h;rw[ByteArray.size_append]at h;omega
 refine ZX Tryz.func37 ?_
 refine gE [1,2,5] ?_
 refine zF (b:=true) (fun c=> ?_) (fun c=>Bool.noConfusion c)
 refine gR [.call (uf ws ⟨#[32]⟩ t11 t11),.callm [0,1] (ZBd xs (yS ws) hl)] [2] ?_ (hp:=by simp only[zC,bb,toN];repeat' first|exact trivial|exact zH.refl _|exact zE.refl _|exact rfl|exact hA|omega|apply And.intro)
 refine Kr env [] (hp:= ?_)
 (try simp only[zC]);repeat' first|exact trivial|exact rfl|(simp;done)|omega|apply And.intro
theorem zRm (xs:List UInt8) (ws:List ByteArray):GM Tryz.prog 37 [bG false,.d (.row dF zf ws),.ptr 0 0 0 0] [.box [.ptr 0 0 0 0,.sl 1 1 0 xs.length],.row 5 1 (dF:UInt8) byC xs 0] (.tup []) [some (.box [.ptr 0 0 0 0,.sl 1 1 0 xs.length]),some (.row 5 1 (dF:UInt8) byC xs 0)]:=by
 refine ZX Tryz.func37 ?_
 refine gE [1,2,5] ?_
 refine zF (b:=false) (fun c=>Bool.noConfusion c) (fun c=> ?_)
 refine Kr env [] (hp:= ?_)
 (try simp only[zC]);repeat' first|exact trivial|exact rfl|(simp;done)|omega|apply And.intro
theorem zMb {x:List UInt8} (ws:List ByteArray) (hx:x=(yS ws).data.toList) (hw:ws.length<=1000) (hj:(Lib.join (ws.map bsT) (bsT ⟨#[32]⟩)).length<=1000) (hl:(yS ws).size<=1000000):GM Tryz.prog 37 [bG true,.d (.row dF zf ws),.ptr 0 0 0 0] [.tbx 109 [.pointer none,.slice none 0 0]] (.tup []) [some (.box [.ptr 0 0 0 0,.sl 1 1 0 x.length]),some (.row 5 1 (dF:UInt8) byC x 0)]:=hx▸zRo ws hw hj hl
theorem QA {i:Bool} {x:List UInt8} (hi:i=true) (xs:List UInt8) (ws:List ByteArray) (hx:x=xs++(yS ws).data.toList) (hw:ws.length<=1000) (hj:(Lib.join (ws.map bsT) (bsT ⟨#[32]⟩)).length<=1000) (hl:xs.length+(yS ws).size<=1000000):GM Tryz.prog 37 [bG i,.d (.row dF zf ws),.ptr 0 0 0 0] [.box [.ptr 0 0 0 0,.sl 1 1 0 xs.length],.row 5 1 (dF:UInt8) byC xs 0] (.tup []) [some (.box [.ptr 0 0 0 0,.sl 2 1 0 x.length]),none,some (.row 5 1 (dF:UInt8) byC x 0)]:=hi▸hx▸zRn xs ws hw hj hl
theorem vj {i:Bool} (hi:i=false) (xs:List UInt8) (ws:List ByteArray):GM Tryz.prog 37 [bG i,.d (.row dF zf ws),.ptr 0 0 0 0] [.box [.ptr 0 0 0 0,.sl 1 1 0 xs.length],.row 5 1 (dF:UInt8) byC xs 0] (.tup []) [some (.box [.ptr 0 0 0 0,.sl 1 1 0 xs.length]),some (.row 5 1 (dF:UInt8) byC xs 0)]:=hi▸zRm xs ws
theorem zCa (b:Bil) (fl:Int) (y n:ByteArray):GC Tryz.prog 40 [iG fl,sG y,sG n,.ep (bilC b)] (sG (if YA .i64 b.flags fl=0 then n else y)):=by
 refine zA Tryz.func40 ?_
 refine gE [0,1,2,3,7] ?_
 refine gE [1,2,7,12] ?_
 refine zP (fun c=> ?_) (fun c=> ?_)
 ·refine gE [7] ?_
  refine gT ?_
  rw[iQ c];rfl
 refine gE [7] ?_
 refine gT ?_
 rw[iP c];rfl
structure Short (ws:List ByteArray):Prop where
 n:ws.length<=1000
 j:(Lib.join (ws.map bsT) (bsT ⟨#[32]⟩)).length<=1000
 l:(yS ws).size<=1001
theorem Qd (s:ByteArray):s.data.toList.length=s.size:=by rw[Array.length_toList];rfl
theorem zMa (ws:List ByteArray):0<(yS ws).size:=by
 unfold yS
 rw[ByteArray.size_append]
 exact Nat.succ_pos _
structure Plain (r:Rlm) (b:Bil):Prop where
 fit:FitR r
 ok:vF r b=0
 bQ:¬b.bQ= -1
 rate:b.rate=0
 parts:b.parts=1
 need:b.need= -1
 flags:b.flags=0
 pay0:0<=b.bQ/\b.bQ<r.bC.length
 dre:0<=b.bO/\b.bO<r.bC.length
 drr:0<=b.bP/\b.bP<r.bC.length
 cit:0<=b.city/\b.city<r.bB.length
 pay:0<=b.pay/\b.pay<r.bB.length
 cur:0<=b.cur/\b.cur<r.bA.length
 sum:0<=b.sum/\b.sum<=1099511627776
 day:yn (yX b.day).1/\yn (yX b.day).2.1/\yn (yX b.day).2.2.1
 ten:yn b.ten.n/\yn (yX b.ten.n).1/\yn (yX b.ten.n).2.1/\yn (yX b.ten.n).2.2.1
 money:(Zl b.sum).size<=100/\(r.bA.getD b.cur.toNat dF).size<=100
 w1:Short [(if YA .i64 b.flags 1=0 then (⟨#[112,97,112,101,114]⟩:ByteArray)else (⟨#[98,105,108,108]⟩:ByteArray)),Zl (0+1),(⟨#[111,102]⟩:ByteArray),Zl b.parts]
 w2:Short [(⟨#[100,114,97,119,110,32,105,110]⟩:ByteArray),(r.bB.getD b.city.toNat dF).name,(⟨#[111,110]⟩:ByteArray),Qq b.day]
 w3:Short [Qz b.ten]
 w4:Short [(⟨#[116,111]⟩:ByteArray),(r.bC.getD b.bQ.toNat dF).name,(if YA .i64 b.flags 4=0 then (⟨#[111,114,32,111,114,100,101,114]⟩:ByteArray)else (⟨#[110,111,116,32,116,111,32,111,114,100,101,114]⟩:ByteArray))]
 w5:Short [Zl b.sum++(⟨#[32]⟩:ByteArray)++(r.bA.getD b.cur.toNat dF)]
 w6:Short [(⟨#[116,111,32,98,101,32,112,97,105,100,32,98,121]⟩:ByteArray),(r.bC.getD b.bO.toNat dF).name,(⟨#[105,110]⟩:ByteArray),(r.bB.getD b.pay.toNat dF).name]
 w7:Short [(⟨#[115,105,103,110,101,100]⟩:ByteArray),(r.bC.getD b.bP.toNat dF).name]
theorem zVj (r:Rlm) (b:Bil) (h:Plain r b):∃s:ByteArray,s.size≠0/\GC Tryz.prog 18 [rlG r,zCr b,iG 0] (sG s):=by
 obtain ⟨hr,h0,h1,h2,h3,h4,h5,p1,p2,p3,p4,p5,p6,p7,⟨d1,d2,d3⟩,⟨d4,d5,d6,d7⟩,⟨m1,m2⟩,⟨n1,j1,l1⟩,⟨n2,j2,l2⟩,⟨n3,j3,l3⟩,⟨n4,j4,l4⟩,⟨n5,j5,l5⟩,⟨n6,j6,l6⟩,⟨n7,j7,l7⟩⟩:=h
 have f1:=hr.bB
 have f2:=hr.bC
 have f3:=hr.cur
 obtain ⟨x1,e1⟩:∃x,x=(yS ([(if YA .i64 b.flags 1=0 then (⟨#[112,97,112,101,114]⟩:ByteArray)else (⟨#[98,105,108,108]⟩:ByteArray)),Zl (0+1),(⟨#[111,102]⟩:ByteArray),Zl b.parts])).data.toList:=⟨_,rfl⟩
 have k1:x1.length<=1001:=by rw[e1,Qd];omega
 obtain ⟨x2,e2⟩:∃x,x=x1++(yS ([(⟨#[100,114,97,119,110,32,105,110]⟩:ByteArray),(r.bB.getD b.city.toNat dF).name,(⟨#[111,110]⟩:ByteArray),Qq b.day])).data.toList:=⟨_,rfl⟩
 have k2:x2.length<=2002:=by rw[e2,List.length_append,Qd];omega
 obtain ⟨x3,e3⟩:∃x,x=x2++(yS ([Qz b.ten])).data.toList:=⟨_,rfl⟩
 have k3:x3.length<=3003:=by rw[e3,List.length_append,Qd];omega
 obtain ⟨x4,e4⟩:∃x,x=x3++(yS ([(⟨#[116,111]⟩:ByteArray),(r.bC.getD b.bQ.toNat dF).name,(if YA .i64 b.flags 4=0 then (⟨#[111,114,32,111,114,100,101,114]⟩:ByteArray)else (⟨#[110,111,116,32,116,111,32,111,114,100,101,114]⟩:ByteArray))])).data.toList:=⟨_,rfl⟩
 have k4:x4.length<=4004:=by rw[e4,List.length_append,Qd];omega
 obtain ⟨x5,e5⟩:∃x,x=x4++(yS ([Zl b.sum++(⟨#[32]⟩:ByteArray)++(r.bA.getD b.cur.toNat dF)])).data.toList:=⟨_,rfl⟩
 have k5:x5.length<=5005:=by rw[e5,List.length_append,Qd];omega
 obtain ⟨x6,e6⟩:∃x,x=x5++(yS ([(⟨#[116,111,32,98,101,32,112,97,105,100,32,98,121]⟩:ByteArray),(r.bC.getD b.bO.toNat dF).name,(⟨#[105,110]⟩:ByteArray),(r.bB.getD b.pay.toNat dF).name])).data.toList:=⟨_,rfl⟩
 have k6:x6.length<=6006:=by rw[e6,List.length_append,Qd];omega
 obtain ⟨x7,e7⟩:∃x,x=x6++(yS ([(⟨#[115,105,103,110,101,100]⟩:ByteArray),(r.bC.getD b.bP.toNat dF).name])).data.toList:=⟨_,rfl⟩
 have k7:x7.length<=7007:=by rw[e7,List.length_append,Qd];omega
 have hne:x7≠ []:=by
  intro e
  rw[e7]at e
  have q:(yS ([(⟨#[115,105,103,110,101,100]⟩:ByteArray),(r.bC.getD b.bP.toNat dF).name])).size=0:=by rw[<-Qd,(List.append_eq_nil_iff.1 e).2];rfl
  have:=zMa ([(⟨#[115,105,103,110,101,100]⟩:ByteArray),(r.bC.getD b.bP.toNat dF).name])
  omega
 refine ⟨⟨x7.toArray⟩,by (show x7.toArray.size≠0;simpa using hne),?_⟩
 refine zA Tryz.func18 ?_
 refine gE [2,3,4,6] ?_
 refine gR [.call (zJf r b hr),.call (Qm 0 b.parts)] [2,3,4,6,21] ?_
 refine zF (fun c=> ?_) (fun c=> ?_)
 ·exfalso;simp only[h0,h3]at c;revert c;decide
 refine zz 0 ?_
 refine zz 1 ?_
 refine Jn ?_
 refine zFo env ?_
 refine Yo [2,3,4,6,7] ?_
 refine gE [2,3,4,6,7,8] ?_
 refine gE [2,3,4,6,7,8,9] ?_
 refine gR [.call (zCa b 1 (⟨#[98,105,108,108]⟩:ByteArray) (⟨#[112,97,112,101,114]⟩:ByteArray)),.call (yT (0+1) ⟨by decide,by decide⟩),.call (yT b.parts ⟨by omega,by omega⟩),.el dF zf ([(if YA .i64 b.flags 1=0 then (⟨#[112,97,112,101,114]⟩:ByteArray)else (⟨#[98,105,108,108]⟩:ByteArray)),Zl (0+1),(⟨#[111,102]⟩:ByteArray),Zl b.parts]:List ByteArray),.callm [2] (zMb ([(if YA .i64 b.flags 1=0 then (⟨#[112,97,112,101,114]⟩:ByteArray)else (⟨#[98,105,108,108]⟩:ByteArray)),Zl (0+1),(⟨#[111,102]⟩:ByteArray),Zl b.parts]) e1 n1 j1 t11)] [2,3,4,6,7,8,9] ?_ (hp:=t44)
 refine gR [.call (Jv b.day d1 d2 d3),.el dF zf ([(⟨#[100,114,97,119,110,32,105,110]⟩:ByteArray),(r.bB.getD b.city.toNat dF).name,(⟨#[111,110]⟩:ByteArray),Qq b.day]:List ByteArray),.callm [2,4] (QA rfl x1 ([(⟨#[100,114,97,119,110,32,105,110]⟩:ByteArray),(r.bB.getD b.city.toNat dF).name,(⟨#[111,110]⟩:ByteArray),Qq b.day]) e2 n2 j2 t11)] [2,3,4,6,7,8,9] ?_ (hp:=t44)
 refine gR [.call (zWu b.ten d4 d5 d6 d7),.el dF zf ([Qz b.ten]:List ByteArray),.callm [2,6] (QA rfl x2 ([Qz b.ten]) e3 n3 j3 t11)] [2,3,4,6,7,8,9] ?_ (hp:=t44)
 refine gE [2,3,4,6,7,8,9,56] ?_
 refine zB (fun c=>absurd c h1) (fun c=> ?_)
 refine gR [.call (zCa b 4 (⟨#[110,111,116,32,116,111,32,111,114,100,101,114]⟩:ByteArray) (⟨#[111,114,32,111,114,100,101,114]⟩:ByteArray)),.el dF zf ([(⟨#[116,111]⟩:ByteArray),(r.bC.getD b.bQ.toNat dF).name,(if YA .i64 b.flags 4=0 then (⟨#[111,114,32,111,114,100,101,114]⟩:ByteArray)else (⟨#[110,111,116,32,116,111,32,111,114,100,101,114]⟩:ByteArray))]:List ByteArray),.callm [2,8] (QA rfl x3 ([(⟨#[116,111]⟩:ByteArray),(r.bC.getD b.bQ.toNat dF).name,(if YA .i64 b.flags 4=0 then (⟨#[111,114,32,111,114,100,101,114]⟩:ByteArray)else (⟨#[110,111,116,32,116,111,32,111,114,100,101,114]⟩:ByteArray))]) e4 n4 j4 t11)] [2,3,4,6,7,8] ?_ (hp:=t44)
 refine gR [.call (yT b.sum ⟨by omega,by omega⟩)] [2,3,4,6,7,8,10] ?_ (hp:=by (have z1:(⟨#[32]⟩:ByteArray).size=1:=rfl);simp only[zC,bb,toN,ByteArray.size_append];repeat' first|exact trivial|exact zH.refl _|exact zE.refl _|exact rfl|omega|apply And.intro|intro _)
 refine gR [.el dF zf ([Zl b.sum++(⟨#[32]⟩:ByteArray)++(r.bA.getD b.cur.toNat dF)]:List ByteArray),.callm [2,10] (QA (decide_eq_true h2) x4 ([Zl b.sum++(⟨#[32]⟩:ByteArray)++(r.bA.getD b.cur.toNat dF)]) e5 n5 j5 t11)] [2,3,4,6,7,8,10] ?_ (hp:=t44)
 refine gR [.call (yT b.rate ⟨by omega,by omega⟩),.el dF zf ([Zl b.sum++(⟨#[32]⟩:ByteArray)++(r.bA.getD b.cur.toNat dF),(⟨#[119,105,116,104,32,105,110,116,101,114,101,115,116,32,97,116]⟩:ByteArray),Zl b.rate,(⟨#[112,101,114,32,109,105,108,108,101]⟩:ByteArray)]:List ByteArray),.callm [2,12] (vj (decide_eq_false (show ¬(0<b.rate)by omega)) x5 ([Zl b.sum++(⟨#[32]⟩:ByteArray)++(r.bA.getD b.cur.toNat dF),(⟨#[119,105,116,104,32,105,110,116,101,114,101,115,116,32,97,116]⟩:ByteArray),Zl b.rate,(⟨#[112,101,114,32,109,105,108,108,101]⟩:ByteArray)]))] [2,3,4,6,7,8] ?_ (hp:=t44)
 refine gR [.el dF zf ([(⟨#[116,111,32,98,101,32,112,97,105,100,32,98,121]⟩:ByteArray),(r.bC.getD b.bO.toNat dF).name,(⟨#[105,110]⟩:ByteArray),(r.bB.getD b.pay.toNat dF).name]:List ByteArray),.callm [2,12] (QA rfl x5 ([(⟨#[116,111,32,98,101,32,112,97,105,100,32,98,121]⟩:ByteArray),(r.bC.getD b.bO.toNat dF).name,(⟨#[105,110]⟩:ByteArray),(r.bB.getD b.pay.toNat dF).name]) e6 n6 j6 t11)] [2,3,4,6,7,8] ?_ (hp:=t44)
 refine gR [.call (zWz b.parts 0 t11 t11),.el dF zf ([(⟨#[117,110,108,101,115,115,32,112,97,114,116]⟩:ByteArray),zXa b.parts 0,(⟨#[119,97,115,32,112,97,105,100]⟩:ByteArray)]:List ByteArray),.callm [2,15] (vj (decide_eq_false (show ¬(1<b.parts)by omega)) x6 ([(⟨#[117,110,108,101,115,115,32,112,97,114,116]⟩:ByteArray),zXa b.parts 0,(⟨#[119,97,115,32,112,97,105,100]⟩:ByteArray)]))] [3,4,6,7,8] ?_ (hp:=t44)
 refine gE [3,4,6,7,8,129] ?_
 refine zP (fun c=>absurd h4 c) (fun c=> ?_)
 refine gR [.el dF zf ([(⟨#[119,105,116,104,111,117,116,32,112,114,111,116,101,115,116]⟩:ByteArray)]:List ByteArray),.callm [2,15] (vj (show (!decide (YA .i64 b.flags 2=0))=false by rw[h5];rfl) x6 ([(⟨#[119,105,116,104,111,117,116,32,112,114,111,116,101,115,116]⟩:ByteArray)]))] [3,4,6,7,8] ?_ (hp:=t44)
 refine gR [.el dF zf ([(⟨#[115,105,103,110,101,100]⟩:ByteArray),(r.bC.getD b.bP.toNat dF).name]:List ByteArray),.callm [2,15] (QA rfl x6 ([(⟨#[115,105,103,110,101,100]⟩:ByteArray),(r.bC.getD b.bP.toNat dF).name]) e7 n7 j7 t11)] [6,7] ?_ (hp:=t44)
 refine gR [.callm [2,19] (ZAc x7 hne)] [6] ?_
 refine gT ?_
 rfl
def wd:Fil:=⟨zN.bill,zN.bF,zN.bH,zN.acts++ [⟨6,2,3,0,2,600,135,0,0⟩],zN.facts⟩
theorem zRi:∀_:Dep,zBw ZN zN=true:=fun D=>by cases D with|mk d=>cases d<;>kernel_rfl
theorem zLv:∀_:Dep,zBw ZN wd=true:=fun D=>by cases D with|mk d=>cases d<;>kernel_rfl
theorem zAt:∀_:Dep,(JA wd 0 139).bM=3:=fun D=>by cases D with|mk d=>cases d<;>kernel_rfl
theorem zRj:∀_:Dep,vF ZN zN.bill=0:=fun D=>by cases D with|mk d=>cases d<;>kernel_rfl
theorem ZDa:∀_:Dep,(uc ZN 0 zN 134).length=3:=fun D=>by cases D with|mk d=>cases d<;>kernel_rfl
theorem ZCz:∀_:Dep,(uc ZN 0 wd 139).length=5:=fun D=>by cases D with|mk d=>cases d<;>kernel_rfl
theorem zXu:∀_:Dep,(decide (((uc ZN 0 zN 134).getD 1 dF).bI=3)&&decide (((uc ZN 0 zN 134).getD 1 dF).sum=1000)&&decide (((uc ZN 0 wd 139).getD 1 dF).sum=400)&&decide (((uc ZN 0 wd 139).getD 4 dF).bI=2)&&decide (((uc ZN 0 wd 139).getD 4 dF).sum=600))=true:=fun D=>by cases D with|mk d=>cases d<;>kernel_rfl
theorem zAs:MemX ZN where
 curS:=fun s hs=>by (rw[List.mem_singleton.1 hs];exact Nat.le_of_ble_eq_true (by kernel_rfl))
 city:=fun c hc=>by (rw[List.mem_singleton.1 hc];exact ⟨Nat.le_of_ble_eq_true (by kernel_rfl),Nat.le_of_ble_eq_true (by kernel_rfl),Nat.le_of_ble_eq_true (by kernel_rfl),Nat.le_of_ble_eq_true (by kernel_rfl)⟩)
 firm:=fun c hc=>by
  have h:(ZN.bC.all fun c=>Nat.ble c.name.size 9223372036854775807)=true:=by kernel_rfl
  exact Nat.le_of_ble_eq_true (List.all_eq_true.1 h c hc)
 order:=fun c hc=>by (rw[List.mem_singleton.1 hc];exact Nat.le_of_ble_eq_true (by kernel_rfl))
 rate:=fun c hc=>by cases hc
 lo:=Nat.le_of_ble_eq_true (by kernel_rfl)
 tm:=fun o ho x hx=>by
  rw[List.mem_singleton.1 ho]at hx
  have h:∀(q:Int) (d:Nat),Qb d (Ja q).term:=fun q d=>by
   have e:(Ja q).term.args= []:=rfl
   cases d with
   |zero=>exact e
   |succ n=>exact ⟨by rw[e];simp,by rw[e];intro a h;cases h⟩
  simp only[ZN,List.mem_cons,List.not_mem_nil,or_false]at hx
  rcases hx with rfl|rfl|rfl|rfl<;>exact h _ _
theorem zFj (hr:FitR ZN):Plain ZN zN.bill where
 fit:=hr
 ok:=zRj inferInstance
 bQ:=by decide
 rate:=rfl
 parts:=rfl
 need:=rfl
 flags:=rfl
 pay0:=by decide
 dre:=by decide
 drr:=by decide
 cit:=by decide
 pay:=by decide
 cur:=by decide
 sum:=by decide
 day:=⟨(by unfold yn;exact of_decide_eq_true (by kernel_rfl)),(by unfold yn;exact of_decide_eq_true (by kernel_rfl)),(by unfold yn;exact of_decide_eq_true (by kernel_rfl))⟩
 ten:=⟨(by unfold yn;exact of_decide_eq_true (by kernel_rfl)),(by unfold yn;exact of_decide_eq_true (by kernel_rfl)),(by unfold yn;exact of_decide_eq_true (by kernel_rfl)),(by unfold yn;exact of_decide_eq_true (by kernel_rfl))⟩
 money:=⟨Nat.le_of_ble_eq_true (by kernel_rfl),Nat.le_of_ble_eq_true (by kernel_rfl)⟩
 w1:=⟨Nat.le_of_ble_eq_true (by kernel_rfl),Nat.le_of_ble_eq_true (by kernel_rfl),Nat.le_of_ble_eq_true (by kernel_rfl)⟩
 w2:=⟨Nat.le_of_ble_eq_true (by kernel_rfl),Nat.le_of_ble_eq_true (by kernel_rfl),Nat.le_of_ble_eq_true (by kernel_rfl)⟩
 w3:=⟨Nat.le_of_ble_eq_true (by kernel_rfl),Nat.le_of_ble_eq_true (by kernel_rfl),Nat.le_of_ble_eq_true (by kernel_rfl)⟩
 w4:=⟨Nat.le_of_ble_eq_true (by kernel_rfl),Nat.le_of_ble_eq_true (by kernel_rfl),Nat.le_of_ble_eq_true (by kernel_rfl)⟩
 w5:=⟨Nat.le_of_ble_eq_true (by kernel_rfl),Nat.le_of_ble_eq_true (by kernel_rfl),Nat.le_of_ble_eq_true (by kernel_rfl)⟩
 w6:=⟨Nat.le_of_ble_eq_true (by kernel_rfl),Nat.le_of_ble_eq_true (by kernel_rfl),Nat.le_of_ble_eq_true (by kernel_rfl)⟩
 w7:=⟨Nat.le_of_ble_eq_true (by kernel_rfl),Nat.le_of_ble_eq_true (by kernel_rfl),Nat.le_of_ble_eq_true (by kernel_rfl)⟩
theorem zXv:GC Tryz.prog 6 [] (bG true):=by
 have hg1:=Wx zAs (zRi inferInstance)
 have hg2:=Wx zAs (zLv inferInstance)
 have hr:=hg1.rr.right.fit
 obtain ⟨l,hl⟩:∃l,l=uc ZN 0 zN 134:=⟨_,rfl⟩
 obtain ⟨m,hm⟩:∃l,l=uc ZN 0 wd 139:=⟨_,rfl⟩
 have c1:=zRt ZN 0 zN 134 hg1.rr hg1.fi (hg1.ck.backs hr) (hg1.ck.rises hr) (hg1.ck.whos hr) (qw hg1.ck.bill).pay
 have c2:=zRt ZN 0 wd 139 hg2.rr hg2.fi (hg2.ck.backs hr) (hg2.ck.rises hr) (hg2.ck.whos hr) (qw hg2.ck.bill).pay
 rw[<-hl]at c1
 rw[<-hm]at c2
 have n1:l.length=3:=(congrArg List.length hl).trans (ZDa inferInstance)
 have n2:m.length=5:=(congrArg List.length hm).trans (ZCz inferInstance)
 have v:=zXu inferInstance
 rw[<-hl,<-hm]at v
 simp only[Bool.and_eq_true,decide_eq_true_eq]at v
 obtain ⟨⟨⟨⟨v1,v2⟩,v3⟩,v4⟩,v5⟩:=v
 obtain ⟨s,s0,c3⟩:=zVj ZN zN.bill (zFj hr)
 obtain ⟨ch,hc⟩:∃ch,ch=JA wd 0 139:=⟨_,rfl⟩
 have c4:=zCl wd 0 139 hg2.fi
 rw[<-hc]at c4
 have v6:ch.bM=3:=(congrArg Chn.bM hc).trans (zAt inferInstance)
 refine zA Tryz.func6 ?_
 refine gE [0] ?_
 refine gR [.callm [] zRk] [0,1,2] ?_
 refine gR [.call c1] [0,1,2,3] ?_
 refine gR [.el dF acC ([⟨6,2,3,0,2,600,135,0,0⟩]:List Act),.el dF acC (zN.acts++([⟨6,2,3,0,2,600,135,0,0⟩]:List Act))] [0,1,2,3] ?_ (hp:=t18)
 refine gR [.call c2] [0,1,2,3,4] ?_
 refine gE [0,1,2,3,4,28] ?_
 refine zF (fun c=> ?_) (fun c=> ?_)
 ·exfalso
  simp[n1,n2]at c
 refine jB 4 ?_
 refine gR [.call c3,.call c4] [0] ?_
 refine Zq env ?_
 rw[show Int.toNat 1=1 from rfl,show Int.toNat 4=4 from rfl,decide_eq_true v1,decide_eq_true v2,decide_eq_true v3,decide_eq_true v4,decide_eq_true v5,decide_eq_true v6,decide_eq_false (fun e=>s0 (by rw[e];rfl))]
 exact Ent.refl _
def ZAv:Bool:=true
theorem zKw {r:Rlm} {f:Fil} (h:Good r f) (hc:f.acts.length<100) (bK:Int) {day:Int} (hd:day<=100000) {i to_ sum:Int} (hi:0<=i/\i<(atV f day).bF.length) (hto:0<=to_/\to_<=(r.bC.length:Int)-1) (hs:1<=sum/\sum<=1099511627776):
 vq r (ZR f i to_ sum day)=0/\∃p:Act,p.who=((atV f day).bF.getD i.toNat dF).who/\p.at_=i/\p.to_=to_/\p.sum=sum/\ZE r bK (ZR f i to_ sum day) day=(Ye (ZE r bK f day) p ((atV f day).bF.getD i.toNat dF).kind (!((atV f day).bF.any fun y=>vN y p))).1:=by
 have hr:=h.rr.right.fit
 obtain ⟨p,hp,e⟩:=zIh f i to_ sum day
 rw[e]
 have hpa:p.at_=i:=by rw[hp]
 have hR:=zWb h.fi (h.ck.backs hr) (h.ck.rises hr) (h.ck.upA hr) (p:=p) (by rw[hp]) (day:=day) (by rw[hp];exact Int.le_refl _) (by rw[hpa];exact hi) r bK
 rw[hpa]at hR
 exact ⟨zTx hr h.ck hc hd (p:=p) (by rw[hp]) (by rw[hp]) (by rw[hp]) (by rw[hp];exact hto) (by rw[hp];exact hs) (by rw[hpa];exact hi) (by rw[hp]) (by rw[hp]) (by rw[hp]),p,by rw[hp],hpa,by rw[hp],by rw[hp],hR⟩
theorem YB.at_ {f:Fil} (h:YB f) (day:Int):YB (atV f day):=fun i j hij hj=>by
 have hp:=zGt f day
 rw[hp.2 i t11,hp.2 j hj]
 exact h i j hij t11
structure Paid (r:Rlm) (f:Fil) (day:Int) (g:Fil):Prop where
 fi:FitFi g
 backs:yY g
 rises:YB g
 whos:vK r g
 pay:0<=g.bill.pay/\g.bill.pay<r.bB.length
 s20:g.bF.length<=20
 a31:g.acts.length<=31
theorem XS {r:Rlm} {f:Fil} (h:Good r f) (i to_ sum day:Int):Paid r f day (ZR f i to_ sum day):=by
 have hr:=h.rr.right.fit
 have hF:=h.fi
 have hB:=(h.ck.backs hr).at_ day
 have hd:=(h.ck.rises hr).at_ day
 have hw:=(h.ck.whos hr).at_ day
 have hp:=(qw h.ck.bill).pay
 have hF2:=hF.at_ day
 have hn:=zUq f day
 have h1:=h.s20
 have h2:=h.a30
 obtain ⟨p,_,e⟩:=zIh f i to_ sum day
 rw[e]
 have hl:(Qc (atV f day) p).acts.length=(atV f day).acts.length+1:=by show ((atV f day).acts++ [p]).length=_;simp
 refine ⟨⟨hF2.bF,hF2.bH,by rw[hl];omega,hF2.facts⟩,hB,hd,hw,?_,?_,by rw[hl];omega⟩
 ·show 0<=(atV f day).bill.pay/\(atV f day).bill.pay<_
  rw[vJ];exact hp
 show (atV f day).bF.length<=20
 omega
theorem zHw (r:Rlm) (bK:Int) (f:Fil) (day:Int) (h1:f.bF.length<=20) (h2:f.acts.length<=31):(ZE r bK f day).length<=10000:=Nat.le_trans (run_n r bK f day h1 h2) t23
theorem Hu (r:Rlm) (bK:Int) (f:Fil) (day:Int) (hR:RR r) (hF:FitFi f) (hB:yY f) (hd:YB f) (hw:vK r f) (hp:0<=f.bill.pay/\f.bill.pay<r.bB.length):GC Tryz.prog 12 [rlG r,iG bK,fiG f,iG day] (.d (.row dF clC (ZE r bK f day))):=zSq (zId r bK f day hR hF hB hd hw hp) rfl
end Go.Gh
