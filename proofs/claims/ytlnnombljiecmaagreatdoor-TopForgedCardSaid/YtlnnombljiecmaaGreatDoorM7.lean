/- Walks by the logic of calls, and plain laws (several texts in one). -/
import Derived.Test.YtlnnombljiecmaaGreatDoorM6
import Derived.Test.YtlnnombljiecmaaGreatDoorGh3
import Derived.Lib.ItoaLen
import Derived.Test.YtlnnombljiecmaaGreatDoorGh4
namespace Go.Gh
open Go Go.Proofs
set_option maxRecDepth 1000000
set_option maxHeartbeats 2000000
set_option linter.unusedSimpArgs false
set_option linter.unusedVariables false
set_option linter.unnecessarySimpa false
set_option linter.unusedSectionVars false
variable [Dep]
open Go.RowKit
def uw (a:Act) (str:Bool) (x:Clm):Clm:=if Ws a str x=true then {x with sum:=IntKind.i64.wrap (mxI 0 x.sum-ux a x)} else x
def bkC (a:Act) (x:Clm):Clm:= {x with creditor:=a.who,by_:=a.at_,sum:=ux a x}
def bkB (a:Act) (q:Int) (str:Bool) (x:Clm):Bool:=Ws a str x&&zNw a q x
def bkF (a:Act) (q:Int) (str:Bool) (b:List Clm) (x:Clm):List Clm:=if bkB a q str x=true then ZU uB (bkC a x) b else b
def zGw (b n:List Clm):List Clm:=b.foldl (fun n c=>ZU Yk c n) n
theorem zUp (a:Act) (q:Int) (str:Bool) (l:List Clm):∀k,k<=l.length->(QM a q str l k).now=(l.take k).map (uw a str)++l.drop k/\(QM a q str l k).back=(l.take k).foldl (bkF a q str) []:=by
 intro k
 induction k with
 |zero=>intro _;exact ⟨by simp[QM],rfl⟩
 |succ k ih=>
  intro hk
  obtain ⟨h1,h2⟩:=ih (by omega)
  have hk':k<l.length:=by omega
  have e1:l.take (k+1)=l.take k++ [l.getD k default]:=by rw[List.take_succ_eq_append_getElem hk',List.getD_eq_getElem?_getD,List.getElem?_eq_getElem hk'];rfl
  have e2:l.drop k=l.getD k default::l.drop (k+1):=by rw[List.drop_eq_getElem_cons hk',List.getD_eq_getElem?_getD,List.getElem?_eq_getElem hk'];rfl
  have hg:(QM a q str l k).now.getD k default=l.getD k default:=by
   rw[h1,List.getD_eq_getElem?_getD,List.getElem?_append_right (by simp;omega)]
   simp[Nat.min_eq_left (Nat.le_of_lt hk'),List.getD_eq_getElem?_getD]
  rw[QM,zJa,e1,List.map_append,List.foldl_append]
  have eX: [l.getD k default].map (uw a str)= [uw a str (l.getD k default)]:=rfl
  have eF: [l.getD k default].foldl (bkF a q str) ((l.take k).foldl (bkF a q str) [])=bkF a q str ((l.take k).foldl (bkF a q str) []) (l.getD k default):=rfl
  rw[eX,eF,<-h2]
  cases hm:Ws a str (l.getD k default)
  ·rw[if_pos (by decide),uw,if_neg (by rw[hm];decide),bkF,if_neg (by rw[bkB,hm,Bool.false_and];decide)]
   exact ⟨by rw[h1,e2];simp,rfl⟩
  ·rw[if_neg (by decide:¬(!true)=true),hg]
   refine ⟨?_,?_⟩
   ·dsimp only
    rw[h1,e2,List.set_append,if_neg (by simp only[List.length_map,List.length_take];omega),uw,if_pos hm]
    simp[Nat.min_eq_left (Nat.le_of_lt hk')]
   ·dsimp only
    cases hp:zNw a q (l.getD k default)
    ·rw[bkF,if_neg (by decide),if_neg (by rw[bkB,hm,hp];decide)]
    ·rw[bkF,if_pos rfl,if_pos (by rw[bkB,hm,hp];decide)];rfl
theorem zGj (l:List Clm) (a:Act) (q:Int) (str:Bool):(qt l a q str).1=zGw (l.foldl (bkF a q str) []) (l.map (uw a str)):=by
 have h:=zUp a q str l l.length (Nat.le_refl _)
 rw[List.take_length,List.drop_length,List.append_nil]at h
 rw[qt,h.1,h.2];rfl
theorem zIy (a:Act) (str:Bool) (x:Clm):YZ (uw a str x)=YZ x:=by
 unfold uw;split<;>rfl
theorem Hu {x y:Clm} (h:YZ x=YZ y):x.sign=y.sign:=congrArg Pky.sign h
theorem vP {u:Clm->Clm->Clm} (hu:ui u) (P:Int->Bool) (c:Clm):∀l:List Clm,(ZU u c l).filter (fun x=>P x.sign)=if P c.sign=true then ZU u c (l.filter fun x=>P x.sign)else l.filter fun x=>P x.sign:=by
 intro l
 induction l with
 |nil=>simp only[ZU];cases h:P c.sign<;>simp[ZU,h]
 |cons x l ih=>
  rw[ZU]
  by_cases hk:YZ x=YZ c
  ·have hs:=Hu hk
   have hs2:=(hu x c).2.2.2.1
   rw[if_pos hk]
   cases h:P c.sign
   ·rw[List.filter_cons_of_neg (by rw[hs2,hs,h];decide),List.filter_cons_of_neg (by rw[hs,h];decide)];rfl
   ·rw[if_pos rfl,List.filter_cons_of_pos (by rw[hs2,hs,h]),List.filter_cons_of_pos (by rw[hs,h]),ZU,if_pos hk]
  ·rw[if_neg hk]
   cases hx:P x.sign
   ·rw[List.filter_cons_of_neg (by rw[hx];decide),List.filter_cons_of_neg (by rw[hx];decide)];exact ih
   ·rw[List.filter_cons_of_pos (by rw[hx]),List.filter_cons_of_pos (by rw[hx]),ih]
    cases h:P c.sign
    ·simp
    ·simp only[if_true];rw[ZU,if_neg hk]
theorem Xw (P:Int->Bool):∀b n:List Clm,(zGw b n).filter (fun x=>P x.sign)=zGw (b.filter fun x=>P x.sign) (n.filter fun x=>P x.sign):=by
 intro b
 induction b with
 |nil=>intro n;rfl
 |cons c b ih=>
  intro n
  show (zGw b (ZU Yk c n)).filter _=_
  rw[ih,vP Vu]
  cases h:P c.sign
  ·rw[List.filter_cons_of_neg (by rw[h];decide)];rfl
  ·rw[List.filter_cons_of_pos (by rw[h])];rfl
theorem zEx (a:Act) (q:Int) (str:Bool) (P:Int->Bool):∀(l b:List Clm),(l.foldl (bkF a q str) b).filter (fun x=>P x.sign)=(l.filter fun x=>P x.sign).foldl (bkF a q str) (b.filter fun x=>P x.sign):=by
 intro l
 induction l with
 |nil=>intro b;rfl
 |cons x l ih=>
  intro b
  rw[List.foldl_cons,ih]
  have e:(bkF a q str b x).filter (fun x=>P x.sign)=if P x.sign=true then bkF a q str (b.filter fun x=>P x.sign) x else b.filter fun x=>P x.sign:=by
   unfold bkF
   split
   ·rw[vP Wz];rfl
   ·cases P x.sign<;>rfl
  rw[e]
  cases h:P x.sign
  ·rw[List.filter_cons_of_neg (by rw[h];decide)];rfl
  ·rw[List.filter_cons_of_pos (by rw[h])];rfl
theorem vQ (a:Act) (q:Int) (str:Bool) (P:Int->Bool) (l:List Clm):(qt l a q str).1.filter (fun x=>P x.sign)=(qt (l.filter fun x=>P x.sign) a q str).1:=by
 rw[zGj,zGj,Xw,zEx]
 have:∀l:List Clm,(l.map (uw a str)).filter (fun x=>P x.sign)=(l.filter fun x=>P x.sign).map (uw a str):=by
  intro l
  induction l with
  |nil=>rfl
  |cons x l ih=>
   have hs:=Hu (zIy a str x)
   rw[List.map_cons]
   cases h:P x.sign
   ·rw[List.filter_cons_of_neg (by rw[hs,h];decide),List.filter_cons_of_neg (by rw[h];decide),ih]
   ·rw[List.filter_cons_of_pos (by rw[hs,h]),List.filter_cons_of_pos (by rw[h]),List.map_cons,ih]
 rw[this];rfl
theorem zBk (w:World) (k:Nat) (os:Array Obj):Below w.heap.size w (Go.Sort.grow (w.drewN k) os):=
 ⟨rfl,rfl,rfl,by show w.heap.size<=(w.heap++os).size;rw[Array.size_append];omega,fun r hr=>by
  show (w.heap++os)[r]? =w.heap[r]?
  exact Array.getElem?_append_left hr⟩
def Za (n:Int):ByteArray:=⟨(Lib.itoa n).toArray⟩
theorem yB (n:Int) (h:yY n):GC Tryz.prog 41 [iG n] (sG (Za n)):=
 zEc Tryz.func41 rfl rfl rfl rfl fun F w hg=>(Tryz.strconv_Itoa n h.1 h.2 w (um (g:=1) hg (by exact List.mem_cons_self) (by kernel_rfl))).mono fun e w' ⟨h1,k,os,h2⟩=>⟨h1,h2▸zBk w k os⟩
theorem ZE (a:Array UInt8):ByteArray.size ⟨a⟩=a.size:=rfl
theorem arrT2 {us:Array Value} (h:us.size=2):∃a b,us= #[a,b]:=by
 obtain ⟨l⟩:=us
 match l,h with
 | [a,b],_=>exact ⟨a,b,rfl⟩
theorem Zv {n:Int} (h:yY n):(Za n).size<=21:=by
 have:=Lib.itoa_length_le n h.1 h.2
 show (Lib.itoa n).toArray.size<=21
 simpa using this
def bsT (s:ByteArray):List UInt8:=s.data.toList
def Hv (xs:List ByteArray) (sep:ByteArray):ByteArray:=⟨(Lib.join (xs.map bsT) (bsT sep)).toArray⟩
theorem Vv (xs:List ByteArray) (sep:ByteArray) (hN:xs.length<=140737488355328) (hlen:(Lib.join (xs.map bsT) (bsT sep)).length<=140737488355328):GC Tryz.prog 39 [.d (.row default ze xs),sG sep] (sG (Hv xs sep)):=by
 refine zLd Tryz.func39 rfl rfl rfl fun F w us hg hF hv=> ?_
 have h2:us.size=2:=hv.1
 obtain ⟨u,v,rfl⟩:=arrT2 h2
 have e1:=(hv.2 1 (sG sep) v rfl rfl).sc_eq.1
 subst e1
 obtain ⟨A,c,b,off,es,val,rfl,hA,hc,hl,hw,hFc,hd⟩:=(hv.2 0 _ u rfl rfl).row_inv
 by_cases hx:xs= []
 ·subst hx
  refine (Tryz.strings_Join_none A c sep w).mono fun e w' ⟨h1,h2⟩=>⟨_,fun _ _=>False,h1,h2▸Below.refl _ _,fun _ _ h=>h.elim,.d (.sc _ rfl)⟩
 ·have hA':=hA hx
  subst hA'
  obtain ⟨x0,xl,hxx⟩:=List.exists_cons_of_ne_nil hx
  have hes:es=1:=by have:=hl x0 (by rw[hxx];exact List.mem_cons_self);simpa [ze]using this.symm
  subst hes
  have hcell:∀(j:Nat) x,xs[j]? =some x->w.cell? ⟨b,off+j,none⟩=some (.string x):=fun j x hj=>by
   have h3:=hw j x 0 (.sc (.string x)) hj rfl
   have h4:=hd j x 0 (.sc (.string x)) hj rfl
   generalize val j 0=z at h3 h4
   cases h4
   rw[Nat.mul_one,Nat.add_zero]at h3
   exact h3
  have hbk:b<w.heap.size:=by
   have h3:F b (off+0*1+0):=hFc 0 x0 0 (.sc (.string x0)) (by rw[hxx];rfl) rfl
   exact hF _ _ h3
  refine (Tryz.strings_Join b off c xs sep w hcell hbk hN hc hlen).mono fun e w' ⟨h1,h2⟩=>⟨_,fun _ _=>False,h1,h2,fun _ _ h=>h.elim,.d (.sc _ rfl)⟩
def QZ (n:Int):ByteArray:=((((Za ((yE n).1))++(⟨#[45]⟩:ByteArray))++(Za ((yE n).2.1)))++(⟨#[45]⟩:ByteArray))++(Za ((yE n).2.2.1))
theorem JY (n:Int) (h1:yY (yE n).1) (h2:yY (yE n).2.1) (h3:yY (yE n).2.2.1):GC Tryz.prog 42 [iG n] (sG (QZ n)):=by
 have z1:=Zv h1
 have z2:=Zv h2
 have z3:=Zv h3
 refine zA Tryz.func42 ?_
 refine gE [0,2] ?_
 refine gR [.call (zSd n)] [2,3,4,5] ?_
 refine gR [.call (yB ((yE n).1) (by first|assumption|(constructor<;>omega))),.call (yB ((yE n).2.1) (by first|assumption|(constructor<;>omega))),.call (yB ((yE n).2.2.1) (by first|assumption|(constructor<;>omega)))] [2] ?_ (hp:=(by simp only[zC,bb,toN,ByteArray.size_append,ZE,List.size_toArray,List.length_cons,List.length_nil];repeat' first|exact trivial|exact zI.refl _|exact rfl|omega|apply And.intro|intro _|(simp only[ByteArray.size_append,ZE,List.size_toArray,List.length_cons,List.length_nil];omega)|(simp;omega)))
 refine gT ?_
 rw[QZ];rfl
def Qh (t:Tnr):ByteArray:=if t.unit=1 then if t.kind=2 then if t.kind=0 then (⟨#[112,97,121,32,97,116,32,115,105,103,104,116]⟩:ByteArray)else if t.kind=3 then (⟨#[112,97,121,32,111,110,32]⟩:ByteArray)++(QZ t.n)else if t.kind=4 then (⟨#[112,97,121,32,97,116,32,117,115,97,110,99,101]⟩:ByteArray)else ((((⟨#[112,97,121,32]⟩:ByteArray)++(Za t.n))++(⟨#[32,109,111,110,116,104,115]⟩:ByteArray))++(⟨#[32,97,102,116,101,114]⟩:ByteArray))++(⟨#[32,100,97,116,101]⟩:ByteArray)else if t.kind=0 then (⟨#[112,97,121,32,97,116,32,115,105,103,104,116]⟩:ByteArray)else if t.kind=3 then (⟨#[112,97,121,32,111,110,32]⟩:ByteArray)++(QZ t.n)else if t.kind=4 then (⟨#[112,97,121,32,97,116,32,117,115,97,110,99,101]⟩:ByteArray)else ((((⟨#[112,97,121,32]⟩:ByteArray)++(Za t.n))++(⟨#[32,109,111,110,116,104,115]⟩:ByteArray))++(⟨#[32,97,102,116,101,114]⟩:ByteArray))++(⟨#[32,115,105,103,104,116]⟩:ByteArray)else if t.kind=2 then if t.kind=0 then (⟨#[112,97,121,32,97,116,32,115,105,103,104,116]⟩:ByteArray)else if t.kind=3 then (⟨#[112,97,121,32,111,110,32]⟩:ByteArray)++(QZ t.n)else if t.kind=4 then (⟨#[112,97,121,32,97,116,32,117,115,97,110,99,101]⟩:ByteArray)else ((((⟨#[112,97,121,32]⟩:ByteArray)++(Za t.n))++(⟨#[32,100,97,121,115]⟩:ByteArray))++(⟨#[32,97,102,116,101,114]⟩:ByteArray))++(⟨#[32,100,97,116,101]⟩:ByteArray)else if t.kind=0 then (⟨#[112,97,121,32,97,116,32,115,105,103,104,116]⟩:ByteArray)else if t.kind=3 then (⟨#[112,97,121,32,111,110,32]⟩:ByteArray)++(QZ t.n)else if t.kind=4 then (⟨#[112,97,121,32,97,116,32,117,115,97,110,99,101]⟩:ByteArray)else ((((⟨#[112,97,121,32]⟩:ByteArray)++(Za t.n))++(⟨#[32,100,97,121,115]⟩:ByteArray))++(⟨#[32,97,102,116,101,114]⟩:ByteArray))++(⟨#[32,115,105,103,104,116]⟩:ByteArray)
theorem zUo (t:Tnr) (hn:yY t.n) (h1:yY (yE t.n).1) (h2:yY (yE t.n).2.1) (h3:yY (yE t.n).2.2.1):GC Tryz.prog 43 [tnG t] (sG (Qh t)):=by
 have z0:=Zv hn
 have z1:=Zv h1
 have z2:=Zv h2
 have z3:=Zv h3
 refine zA Tryz.func43 ?_
 refine gE [1,2] ?_
 refine gE [1,2,3,4] ?_
 refine gE [1,2,3,4,7] ?_
 refine zB ?_ ?_<;>intro c1<;>try simp only[toN]at c1
 ·refine gE [1,2,3,4] ?_
  refine gE [1,2,3,4,10] ?_
  refine zB ?_ ?_<;>intro c2<;>try simp only[toN]at c2
  ·refine gE [1,2,3,4] ?_
   refine gE [1,2,3,4,12] ?_
   refine gE [1,2,3,4,12,13] ?_
   refine zB ?_ ?_<;>intro c3<;>try simp only[toN]at c3
   ·refine gE [1,2,3,4] ?_
    refine gT ?_
    rw[Qh,if_pos c1,if_pos c2,if_pos c3];rfl
   ·refine gE [1,2,3,4,12,15] ?_
    refine zB ?_ ?_<;>intro c4<;>try simp only[toN]at c4
    ·refine gR [.call (JY t.n (by assumption) (by assumption) (by assumption))] [1,2,3,4] ?_ (hp:=(by simp only[zC,bb,toN,QZ,ByteArray.size_append,ZE,List.size_toArray,List.length_cons,List.length_nil];repeat' first|exact trivial|exact zI.refl _|exact rfl|omega|apply And.intro|intro _|(simp only[ByteArray.size_append,ZE,List.size_toArray,List.length_cons,List.length_nil];omega)|(simp;omega)))
     refine gT ?_
     rw[Qh,if_pos c1,if_pos c2,if_neg c3,if_pos c4];rfl
    ·refine gE [1,2,3,4,21] ?_
     refine zB ?_ ?_<;>intro c5<;>try simp only[toN]at c5
     ·refine gE [1,2,3,4] ?_
      refine gT ?_
      rw[Qh,if_pos c1,if_pos c2,if_neg c3,if_neg c4,if_pos c5];rfl
     ·refine gR [.call (yB t.n (by first|assumption|(constructor<;>omega)))] [2] ?_ (hp:=(by simp only[zC,bb,toN,ByteArray.size_append,ZE,List.size_toArray,List.length_cons,List.length_nil];repeat' first|exact trivial|exact zI.refl _|exact rfl|omega|apply And.intro|intro _|(simp only[ByteArray.size_append,ZE,List.size_toArray,List.length_cons,List.length_nil];omega)|(simp;omega)))
      refine gT ?_
      rw[Qh,if_pos c1,if_pos c2,if_neg c3,if_neg c4,if_neg c5];rfl
  ·refine gE [1,2,3,4,12] ?_
   refine gE [1,2,3,4,12,13] ?_
   refine zB ?_ ?_<;>intro c6<;>try simp only[toN]at c6
   ·refine gE [1,2,3,4] ?_
    refine gT ?_
    rw[Qh,if_pos c1,if_neg c2,if_pos c6];rfl
   ·refine gE [1,2,3,4,12,15] ?_
    refine zB ?_ ?_<;>intro c7<;>try simp only[toN]at c7
    ·refine gR [.call (JY t.n (by assumption) (by assumption) (by assumption))] [1,2,3,4] ?_ (hp:=(by simp only[zC,bb,toN,QZ,ByteArray.size_append,ZE,List.size_toArray,List.length_cons,List.length_nil];repeat' first|exact trivial|exact zI.refl _|exact rfl|omega|apply And.intro|intro _|(simp only[ByteArray.size_append,ZE,List.size_toArray,List.length_cons,List.length_nil];omega)|(simp;omega)))
     refine gT ?_
     rw[Qh,if_pos c1,if_neg c2,if_neg c6,if_pos c7];rfl
    ·refine gE [1,2,3,4,21] ?_
     refine zB ?_ ?_<;>intro c8<;>try simp only[toN]at c8
     ·refine gE [1,2,3,4] ?_
      refine gT ?_
      rw[Qh,if_pos c1,if_neg c2,if_neg c6,if_neg c7,if_pos c8];rfl
     ·refine gR [.call (yB t.n (by first|assumption|(constructor<;>omega)))] [2] ?_ (hp:=(by simp only[zC,bb,toN,ByteArray.size_append,ZE,List.size_toArray,List.length_cons,List.length_nil];repeat' first|exact trivial|exact zI.refl _|exact rfl|omega|apply And.intro|intro _|(simp only[ByteArray.size_append,ZE,List.size_toArray,List.length_cons,List.length_nil];omega)|(simp;omega)))
      refine gT ?_
      rw[Qh,if_pos c1,if_neg c2,if_neg c6,if_neg c7,if_neg c8];rfl
 ·refine gE [1,2,3,4,10] ?_
  refine zB ?_ ?_<;>intro c9<;>try simp only[toN]at c9
  ·refine gE [1,2,3,4] ?_
   refine gE [1,2,3,4,12] ?_
   refine gE [1,2,3,4,12,13] ?_
   refine zB ?_ ?_<;>intro c10<;>try simp only[toN]at c10
   ·refine gE [1,2,3,4] ?_
    refine gT ?_
    rw[Qh,if_neg c1,if_pos c9,if_pos c10];rfl
   ·refine gE [1,2,3,4,12,15] ?_
    refine zB ?_ ?_<;>intro c11<;>try simp only[toN]at c11
    ·refine gR [.call (JY t.n (by assumption) (by assumption) (by assumption))] [1,2,3,4] ?_ (hp:=(by simp only[zC,bb,toN,QZ,ByteArray.size_append,ZE,List.size_toArray,List.length_cons,List.length_nil];repeat' first|exact trivial|exact zI.refl _|exact rfl|omega|apply And.intro|intro _|(simp only[ByteArray.size_append,ZE,List.size_toArray,List.length_cons,List.length_nil];omega)|(simp;omega)))
     refine gT ?_
     rw[Qh,if_neg c1,if_pos c9,if_neg c10,if_pos c11];rfl
    ·refine gE [1,2,3,4,21] ?_
     refine zB ?_ ?_<;>intro c12<;>try simp only[toN]at c12
     ·refine gE [1,2,3,4] ?_
      refine gT ?_
      rw[Qh,if_neg c1,if_pos c9,if_neg c10,if_neg c11,if_pos c12];rfl
     ·refine gR [.call (yB t.n (by first|assumption|(constructor<;>omega)))] [2] ?_ (hp:=(by simp only[zC,bb,toN,ByteArray.size_append,ZE,List.size_toArray,List.length_cons,List.length_nil];repeat' first|exact trivial|exact zI.refl _|exact rfl|omega|apply And.intro|intro _|(simp only[ByteArray.size_append,ZE,List.size_toArray,List.length_cons,List.length_nil];omega)|(simp;omega)))
      refine gT ?_
      rw[Qh,if_neg c1,if_pos c9,if_neg c10,if_neg c11,if_neg c12];rfl
  ·refine gE [1,2,3,4,12] ?_
   refine gE [1,2,3,4,12,13] ?_
   refine zB ?_ ?_<;>intro c13<;>try simp only[toN]at c13
   ·refine gE [1,2,3,4] ?_
    refine gT ?_
    rw[Qh,if_neg c1,if_neg c9,if_pos c13];rfl
   ·refine gE [1,2,3,4,12,15] ?_
    refine zB ?_ ?_<;>intro c14<;>try simp only[toN]at c14
    ·refine gR [.call (JY t.n (by assumption) (by assumption) (by assumption))] [1,2,3,4] ?_ (hp:=(by simp only[zC,bb,toN,QZ,ByteArray.size_append,ZE,List.size_toArray,List.length_cons,List.length_nil];repeat' first|exact trivial|exact zI.refl _|exact rfl|omega|apply And.intro|intro _|(simp only[ByteArray.size_append,ZE,List.size_toArray,List.length_cons,List.length_nil];omega)|(simp;omega)))
     refine gT ?_
     rw[Qh,if_neg c1,if_neg c9,if_neg c13,if_pos c14];rfl
    ·refine gE [1,2,3,4,21] ?_
     refine zB ?_ ?_<;>intro c15<;>try simp only[toN]at c15
     ·refine gE [1,2,3,4] ?_
      refine gT ?_
      rw[Qh,if_neg c1,if_neg c9,if_neg c13,if_neg c14,if_pos c15];rfl
     ·refine gR [.call (yB t.n (by first|assumption|(constructor<;>omega)))] [2] ?_ (hp:=(by simp only[zC,bb,toN,ByteArray.size_append,ZE,List.size_toArray,List.length_cons,List.length_nil];repeat' first|exact trivial|exact zI.refl _|exact rfl|omega|apply And.intro|intro _|(simp only[ByteArray.size_append,ZE,List.size_toArray,List.length_cons,List.length_nil];omega)|(simp;omega)))
      refine gT ?_
      rw[Qh,if_neg c1,if_neg c9,if_neg c13,if_neg c14,if_neg c15];rfl
theorem Kq {a:List ByteArray} {z:ByteArray} (h:∀y,y∈a->y.size<=21) (hz:z.size<=21):∀y,y∈a++ [z]->y.size<=21:=fun y hy=>by
 rcases List.mem_append.1 hy with hy|hy
 ·exact h y hy
 ·rw[List.mem_singleton.1 hy];exact hz
theorem zKl (sep:List UInt8):∀(l:List (List UInt8)),(∀x,x∈l->x.length<=21)->(Lib.join l sep).length<=l.length*(21+sep.length):=by
 intro l
 induction l with
 |nil=>intro _;simp[Lib.join]
 |cons a l ih=>
  intro h
  have h1:=h a (by simp)
  have h2:=ih fun x hx=>h x (List.mem_cons_of_mem _ hx)
  have h3:(l.length+1)*(21+sep.length)=l.length*(21+sep.length)+(21+sep.length):=Nat.succ_mul _ _
  cases l with
  |nil=>simp[Lib.join]at*;omega
  |cons b l=>
   have e:sep.intercalate (a::b::l)=a++(sep++sep.intercalate (b::l)):=by simp[List.intercalate]
   simp only[Lib.join,e,List.length_append,List.length_cons]at*;omega
def vS (n:Int) (not_:Int) (a5_1:List ByteArray) (k1:Nat):ByteArray:=if (k1:Int)<n then if (k1:Int)=not_ then vS n not_ a5_1 (k1+1)else vS n not_ (a5_1++ [(Za (k1+1:Int))]) (k1+1)else (Hv a5_1 (⟨#[32,111,114,32]⟩:ByteArray))
termination_by n.toNat-k1
decreasing_by all_goals first|omega|(simp only[bb]at*;omega)
def zUt (n:Int) (not_:Int):ByteArray:=vS n not_ [] 0
theorem zUs (n:Int) (not_:Int) (h0:0<=n) (h1:n<=1000):GC Tryz.prog 44 [iG n,iG not_] (sG (zUt n not_)):=by
 refine zA Tryz.func44 ?_
 refine gE [0,1,4] ?_
 refine gE [0,1,4,5] ?_
 refine gE [1,4,5,7,8] ?_
 refine yc 5 9 1 (default:ByteArray) ze (by rfl) (by rfl) ?_
 refine zG (α:=List ByteArray×Nat) (fun x=>x.2<=n.toNat/\vS n not_ [] 0=vS n not_ x.1 x.2/\x.1.length<=x.2/\(fun (a:List ByteArray) (k:Nat)=>∀y,y∈a->y.size<=21) x.1 x.2) (fun x=>[(5,.sl 0 1 0 x.1.length),(8,iG x.2)]) (fun x=>[(0,some (.row 9 1 default ze x.1 0))]) (fun x=>n.toNat-x.2) ([],0) ⟨by (try simp only[]);omega,rfl,by first|omega|(simp;done)|(simp only[List.length_append,List.length_cons,List.length_nil,List.length_set,List.length_replicate];omega),(by simp)⟩ ?_ (hp:=by simp[zC]<;>rfl)
 rintro ⟨a5_1,k1⟩ ⟨hi1,he,hl_a5_1,hv1⟩
 dsimp only at*
 refine gE [1,4,5,7,8,9] ?_
 refine zB ?_ ?_<;>intro c1<;>try simp only[toN]at c1
 ·refine gE [1,4,5,6,7,8] ?_
  refine gE [1,4,5,6,7,8,13] ?_
  refine zT ?_ ?_<;>intro c2<;>try simp only[toN]at c2
  ·refine gU [.call (yB (k1+1:Int) (by first|assumption|(constructor<;>omega))),.el default ze ([(Za (k1+1:Int))]:List ByteArray),.el default ze (a5_1++ [(Za (k1+1:Int))])] [1,4,5,7,8] ?_
   refine gE [1,4,5,7,8] ?_
   refine zD ((a5_1++ [(Za (k1+1:Int))],k1+1)) ?_ (hp:=by simp[zC]<;>rfl) (hm:=by dsimp only;omega)
   refine ⟨by (try simp only[]);omega,he.trans ?_,by first|omega|(simp;done)|(simp only[List.length_append,List.length_cons,List.length_nil,List.length_set,List.length_replicate];omega),(by dsimp only;first|assumption|exact Kq (by assumption) (Zv (by constructor<;>omega)))⟩
   rw[vS,if_pos c1,if_neg c2]
   try rfl
  ·refine gE [1,4,5,7,8] ?_
   refine zD ((a5_1,k1+1)) ?_ (hp:=by simp[zC]<;>rfl) (hm:=by dsimp only;omega)
   refine ⟨by (try simp only[]);omega,he.trans ?_,by first|omega|(simp;done)|(simp only[List.length_append,List.length_cons,List.length_nil,List.length_set,List.length_replicate];omega),(by dsimp only;first|assumption|exact Kq (by assumption) (Zv (by constructor<;>omega)))⟩
   rw[vS,if_pos c1,if_pos c2]
   try rfl
 ·have hj0:=zKl [32,111,114,32] (a5_1.map bsT) (fun x hx=>by obtain ⟨y,hy,rfl⟩:=List.mem_map.1 hx;have:=hv1 y hy;simpa [bsT]using this)
  have hj:(Lib.join (a5_1.map bsT) (bsT ⟨#[32,111,114,32]⟩)).length<=140737488355328:=by rw[List.length_map]at hj0;simp only[List.length_cons,List.length_nil]at hj0;have e:bsT ⟨#[32,111,114,32]⟩= [32,111,114,32]:=rfl;rw[e];omega
  refine gR [.call (Vv a5_1 (⟨#[32,111,114,32]⟩:ByteArray) (by omega) (by exact hj))] [4] ?_
  refine gT ?_
  rw[zUt,he,vS,if_neg c1];rfl
def Yx (c:Clm) (r:Rlm) (forum:Int) (f:Fil) (day:Int):Bool:=decide ((Wv r forum f c day)=1)
theorem zHi (c:Clm) (r:Rlm) (forum:Int) (f:Fil) (day:Int) (hR:RR r) (hF:FitFi f) (hp:0<=f.bill.pay/\f.bill.pay<r.cities.length):GC Tryz.prog 25 [clG c,.ep (rlC r),.ep [.sc (.int .i64 forum)],.ep (fiC f),.ep [.sc (.int .i64 day)]] (bG (Yx c r forum f day)):=by
 refine zA Tryz.func25 ?_
 refine gE [1,2,3,4,5,6] ?_
 refine gR [.call (zPx r forum f c day hR (by first|assumption|exact FitFi.at_ (by assumption) _|exact FitFi.nof (by assumption)|exact FitFi.nof (FitFi.at_ (by assumption) _)) (by assumption))] [6] ?_
 refine gT ?_
 rw[Yx];rfl
theorem zWa (l:List Clm) (hl:l.length<=8000000000) (r:Rlm) (forum:Int) (f:Fil) (day:Int) (hR:RR r) (hF:FitFi f) (hp:0<=f.bill.pay/\f.bill.pay<r.cities.length):GM Tryz.prog 62 [.sl 0 9 0 l.length,.fn (.func 25) [] [.ep (rlC r),.ep [.sc (.int .i64 forum)],.ep (fiC f),.ep [.sc (.int .i64 day)]]] [.row 55 9 (default:Clm) clC l 0] (iG (zO (fun y=>Yx y r forum f day) l 0)) [some (.row 55 9 (default:Clm) clC l 0)]:=by
 refine ZO Tryz.func62 ?_
 refine gE [0,1,4] ?_
 refine gE [0,1,4,7,8] ?_
 refine zG (α:=Nat) (fun i=>i<=l.length/\zO (fun y=>Yx y r forum f day) l 0=zO (fun y=>Yx y r forum f day) (l.drop i) i) (fun i=>[(8,iG i)]) (fun _=>[]) (fun i=>l.length-i) 0 ⟨by omega,rfl⟩ ?_ (hp:=by simp[zC]<;>rfl)
 rintro i ⟨hi,he⟩
 refine gE [0,1,4,7,8,9] ?_
 refine zB ?_ ?_<;>intro c1<;>try simp only[toN]at c1
 ·refine gE [0,1,4,5,7,8] ?_
  refine gR [.call (zHi (l.getD i default) r forum f day hR hF hp)] [0,1,4,5,7,8,16] ?_
  refine zE ?_ ?_<;>intro c2<;>try simp only[bb,toN]at c2
  ·refine gE [0,1,4,7,8] ?_
   refine KH env [iG (zO (fun y=>Yx y r forum f day) l 0)] (hp:= ?_)
   simp only[zC]
   rw[he,jE l i (by omega),zO,if_pos (by exact c2)]
   simp
  ·refine gE [0,1,4,7,8] ?_
   refine zD (i+1) ?_ (hp:=by simp[zC]<;>rfl)
   refine ⟨by omega,he.trans ?_⟩
   rw[jE l i (by omega),zO,if_neg (by rw[Bool.not_eq_true];exact c2)]
 ·refine gE [4] ?_
  refine KH env [iG (zO (fun y=>Yx y r forum f day) l 0)] (hp:= ?_)
  simp only[zC]
  rw[he,show l.drop i= []from List.drop_eq_nil_of_le (by omega)]
  simp[zO]
theorem zAn {α:Type} (P:α->Bool):∀(l:List α) (n:Nat),(zO P l n= -1/\l.filter (fun y=> !P y)=l)∨∃k:Nat,zO P l n=((n+k:Nat):Int)/\k<l.length/\(l.take (k+1)).filter (fun y=> !P y)=l.take k:=by
 intro l
 induction l with
 |nil=>intro n;exact .inl ⟨rfl,rfl⟩
 |cons a l ih=>
  intro n
  rw[zO]
  by_cases h:P a=true
  ·rw[if_pos h];exact .inr ⟨0,by simp,by simp,by simp[h]⟩
  ·rw[if_neg h]
   have h':P a=false:=by simpa using h
   rcases ih (n+1)with ⟨h1,h2⟩|⟨k,h1,h2,h3⟩
   ·exact .inl ⟨h1,by rw[List.filter_cons,h',h2];rfl⟩
   ·exact .inr ⟨k+1,by rw[h1];congr 1;omega,by simpa using h2,by rw[List.take_succ_cons,List.filter_cons,h',h3];rfl⟩
theorem zXd (l:List Clm) (hl:l.length<=8000000000) (r:Rlm) (forum:Int) (f:Fil) (day:Int) (hR:RR r) (hF:FitFi f) (hp:0<=f.bill.pay/\f.bill.pay<r.cities.length):GM Tryz.prog 24 [.sl 0 9 0 l.length,.fn (.func 25) [] [.ep (rlC r),.ep [.sc (.int .i64 forum)],.ep (fiC f),.ep [.sc (.int .i64 day)]]] [.row 55 9 (default:Clm) clC l 0] (.sl 1 9 0 (l.filter (fun y=> !Yx y r forum f day)).length) [none,some (.row 55 9 (default:Clm) clC (l.filter (fun y=> !Yx y r forum f day)) 0)]:=by
 refine ZO Tryz.func24 ?_
 refine gE [0,1,4] ?_
 refine gR [.callm [0] (zWa l hl r forum f day hR hF hp)] [0,1,4,5] ?_
 refine gE [0,1,4,5,12] ?_
 rcases zAn (fun y=>Yx y r forum f day) l 0 with ⟨h1,h2⟩|⟨i0,h1,h2,h3⟩
 ·refine zB (fun c1=> ?_) (fun c1=>absurd h1 c1)
  refine gE [4] ?_
  refine yU env [.sl 1 9 0 (l.filter (fun y=> !Yx y r forum f day)).length] (hp:= ?_)
  simp only[zC,h2]
  repeat' first|exact trivial|exact rfl|(simp;done)|apply And.intro
 ·rw[show (0:Nat)+i0=i0 from Nat.zero_add _]at h1
  refine zB (fun c1=> ?_) (fun c1=> ?_)
  ·exact absurd (h1.symm.trans c1) (by omega)
  rw[h1]
  refine gP [] [0,1,4,5,6] ?_
  refine zG (α:=List Clm×Nat×Nat) (fun x=>x.2.2<=l.length/\x.2.1<=x.2.2/\x.1.length=l.length/\x.1.take x.2.1=(l.take x.2.2).filter (fun y=> !Yx y r forum f day)/\x.1.drop x.2.2=l.drop x.2.2) (fun x=>[(0,.sl 0 9 0 x.1.length),(5,iG x.2.1),(6,iG x.2.2)]) (fun x=>[(0,some (.row 55 9 (default:Clm) clC (x.1) 0))]) (fun x=>l.length-x.2.2) (l,i0,i0+1) ⟨h2,Nat.le_succ _,rfl,h3.symm,rfl⟩ ?_ (hp:=by (try simp only[zC]);repeat' first|exact trivial|exact rfl|exact zI.refl _|exact zH.refl _|omega|apply And.intro|(simp;done)|(simp[*];done))
  rintro ⟨R,i,j⟩ ⟨hj,hij,hR1,hR2,hR3⟩
  dsimp only at hj hij hR1 hR2 hR3⊢
  refine gE [0,1,4,5,6,19] ?_
  refine zB (fun c2=> ?_) (fun c2=> ?_)
  ·have hj2:j<l.length:=by omega
   have hRj:R.getD j default=l.getD j default:=by
    have:=congrArg (·[0]?) hR3
    simpa [List.getD_eq_getElem?_getD]using congrArg (fun o=>o.getD default) this
   have ht:(l.take (j+1)).filter (fun y=> !Yx y r forum f day)=(l.take j).filter (fun y=> !Yx y r forum f day)++ [l.getD j default].filter (fun y=> !Yx y r forum f day):=by
    rw[List.take_succ_eq_append_getElem hj2,List.filter_append,List.getD_eq_getElem?_getD,List.getElem?_eq_getElem hj2];rfl
   have hd1:R.drop (j+1)=l.drop (j+1):=by
    have:=congrArg (List.drop 1) hR3
    simpa [List.drop_drop]using this
   refine gP [] [0,1,4,5,6,7] ?_
   refine gR [.call (zHi (R.getD j default) r forum f day hR hF hp)] [0,1,4,5,6,7,29] ?_
   refine zE (fun c3=> ?_) (fun c3=> ?_)
   ·have c3':Yx (l.getD j default) r forum f day=false:=by rw[<-hRj];simpa using c3
    refine gR [.el default clC (R.set i (R.getD j default))] [0,1,4,5,6] ?_ (hp:=(by simp only[zC,bb,toN,loI,hiI,Nat.zero_add];repeat' first|exact Nat.le_refl _|exact (ZN (cs:=clC) (by omega) rfl (by rfl)).symm|exact trivial|exact zI.refl _|exact zH.refl _|exact rfl|omega|apply And.intro|intro _|(simp;done)))
    refine gP [] [0,1,4,5,6] ?_
    refine gP [] [0,1,4,5,6] ?_
    refine zD (R.set i (R.getD j default),i+1,j+1) ⟨hj2,by dsimp only;omega,by simp[hR1],?_,?_⟩ (hp:=by (try simp only[zC]);repeat' first|exact trivial|exact rfl|exact zI.refl _|exact zH.refl _|omega|apply And.intro|(simp;done)|(simp[*];done)) (hm:=by dsimp only;omega)
    ·dsimp only
     rw[ht,show [l.getD j default].filter (fun y=> !Yx y r forum f day)= [l.getD j default]by rw[List.filter_cons];simp only[c3'];rfl,<-hR2,hRj]
     have hi:i<R.length:=by omega
     rw[List.take_succ_eq_append_getElem (by simpa using hi),List.take_set_of_le (Nat.le_refl _)]
     simp[hi]
    ·dsimp only
     rw[List.drop_set_of_lt (by omega)];exact hd1
   ·have c3':Yx (l.getD j default) r forum f day=true:=by rw[<-hRj];simpa using c3
    refine gP [] [0,1,4,5,6] ?_
    refine zD (R,i,j+1) ⟨hj2,by dsimp only;omega,hR1,?_,hd1⟩ (hp:=by (try simp only[zC]);repeat' first|exact trivial|exact rfl|exact zI.refl _|exact zH.refl _|omega|apply And.intro|(simp;done)|(simp[*];done)) (hm:=by dsimp only;omega)
    dsimp only
    rw[ht,hR2,show [l.getD j default].filter (fun y=> !Yx y r forum f day)= []by rw[List.filter_cons];simp only[c3'];rfl,List.append_nil]
  ·have e:j=l.length:=by omega
   rw[e,List.take_length]at hR2
   have hlen:i=(l.filter (fun y=> !Yx y r forum f day)).length:=by rw[<-hR2,List.length_take];omega
   refine vB ?_
   refine Zl env false 3 [] ?_ (hp:=by simp only[zC,bb,toN,loI,hiI];repeat' first|exact trivial|exact rfl|omega|apply And.intro|intro _)
   refine zKv env (b:=0) (es:=9) (i:=0+i) (fz:=0) (xs:=R) ?_ ⟨Nat.zero_le _,by omega⟩
   refine jb [0,1,4,5] ?_
   refine gP [] [4] ?_
   refine yU env [.sl 1 9 0 (l.filter (fun y=> !Yx y r forum f day)).length] (hp:= ?_)
   simp only[zC,Nat.zero_add,hR2,<-hlen]
   repeat' first|exact trivial|exact rfl|(simp;done)|omega|apply And.intro
def UC (r:Rlm) (forum:Int) (f:Fil) (day:Int) (x:Clm):Clm:=if Wv r forum f x day=2 then {x with state:=2} else x
def YO (r:Rlm) (forum:Int) (f:Fil) (day:Int):List Clm:=((QL r forum f day).filter (fun y=> !Yx y r forum f day)).map (UC r forum f day)
theorem Xv (r:Rlm) (forum:Int) (f:Fil) (day:Int) (hR:RR r) (hF:FitFi f) (hB:Zj f) (hd:jM f) (hw:vl r f) (hp:0<=f.bill.pay/\f.bill.pay<r.cities.length):GC Tryz.prog 9 [rlG r,iG forum,fiG f,iG day] (.d (.row default clC (YO r forum f day))):=by
 have hl:=zNp r forum f day hF hd
 refine zA Tryz.func9 ?_
 refine gE [4,5,6,7,8] ?_
 refine zv 0 ?_
 refine zv 1 ?_
 refine zv 2 ?_
 refine zv 3 ?_
 refine gR [.callm [] (zUn r forum f day hR hF hB hd hw hp),.callm [4] (zXd (QL r forum f day) (by omega) r forum f day hR hF hp)] [4,5,6,7,8,9] ?_
 obtain ⟨L,hL⟩:∃L,L=(QL r forum f day).filter (fun y=> !Yx y r forum f day):=⟨_,rfl⟩
 have hLl:L.length<=1003001000:=by rw[hL];exact Nat.le_trans (List.length_filter_le _ _) hl
 rw[<-hL]
 refine gE [4,5,6,7,8,9,19,20,21] ?_
 refine zG (α:=List Clm×Nat) (fun x=>x.2<=L.length/\x.1.length=L.length/\x.1=(L.take x.2).map (UC r forum f day)++L.drop x.2) (fun x=>[(21,iG x.2)]) (fun x=>[(5,some (.row 55 9 (default:Clm) clC (x.1) 0))]) (fun x=>L.length-x.2) (L,0) ⟨Nat.zero_le _,rfl,rfl⟩ ?_ (hp:=by (try simp only[zC]);repeat' first|exact trivial|exact rfl|exact zI.refl _|exact zH.refl _|omega|apply And.intro|(simp;done)|(simp[*];done))
 rintro ⟨R,j⟩ ⟨hj,hR1,hR2⟩
 dsimp only at hj hR1 hR2⊢
 refine gE [4,5,6,7,8,9,19,20,21,22] ?_
 refine zB (fun c1=> ?_) (fun c1=> ?_)
 ·have hj2:j<L.length:=by omega
  have hgj:R.getD j default=L.getD j default:=by
   rw[hR2,List.getD_eq_getElem?_getD,List.getElem?_append_right (by simp;omega)]
   simp[Nat.min_eq_left (Nat.le_of_lt hj2),List.getD_eq_getElem?_getD]
  have hst:∀y,y=UC r forum f day (L.getD j default)->R.set j y=(L.take (j+1)).map (UC r forum f day)++L.drop (j+1):=fun y hy=>by
   have e1:L.take (j+1)=L.take j++ [L.getD j default]:=by rw[List.take_succ_eq_append_getElem hj2,List.getD_eq_getElem?_getD,List.getElem?_eq_getElem hj2];rfl
   rw[e1,List.map_append,hR2,jE L j hj2,List.append_assoc,List.set_append,if_neg (by simp only[List.length_map,List.length_take];omega),hy]
   simp[Nat.min_eq_left (Nat.le_of_lt hj2)]
  refine gP [] [4,5,6,7,8,9,10,11,19,20,21] ?_
  refine gR [.call (zPx r forum f (R.getD j default) day hR hF hp)] [4,5,6,7,8,9,10,11,19,20,21,32] ?_
  refine zB (fun c2=> ?_) (fun c2=> ?_)
  ·refine gR [.el default clC (R.set j {R.getD j default with state:=2})] [4,5,6,7,8,9,19,20,21] ?_ (hp:=(by simp only[zC,bb,toN,loI,hiI,Nat.zero_add];repeat' first|exact Nat.le_refl _|exact (Xc (by omega)).symm|exact trivial|exact zI.refl _|exact zH.refl _|exact rfl|omega|apply And.intro|intro _|(simp;done)))
   refine gP [] [4,5,6,7,8,9,19,20,21] ?_
   refine zD (R.set j {R.getD j default with state:=2},j+1) ⟨hj2,by simp[hR1],hst _ ?_⟩ (hp:=by (try simp only[zC]);repeat' first|exact trivial|exact rfl|exact zI.refl _|exact zH.refl _|omega|apply And.intro|(simp;done)|(simp[*];done)) (hm:=by dsimp only;omega)
   rw[<-hgj,UC,if_pos (show Wv r forum f (R.getD j default) day=2 from c2)]
  ·refine gP [] [4,5,6,7,8,9,19,20,21] ?_
   refine zD (R,j+1) ⟨hj2,hR1,?_⟩ (hp:=by (try simp only[zC]);repeat' first|exact trivial|exact rfl|exact zI.refl _|exact zH.refl _|omega|apply And.intro|(simp;done)|(simp[*];done)) (hm:=by dsimp only;omega)
   have h1:=hst (R.getD j default) (by rw[<-hgj,UC,if_neg (show ¬Wv r forum f (R.getD j default) day=2 from c2)])
   rw[<-h1,List.getD_eq_getElem?_getD,List.getElem?_eq_getElem (show j<R.length by omega)]
   simp
 ·have e:j=L.length:=by omega
  rw[e,List.take_length,List.drop_length,List.append_nil]at hR2
  refine gE [8] ?_
  refine gT ?_ (hp:=by simp only[zC];repeat' first|exact hR1.symm|exact trivial|omega|apply And.intro)
  rw[YO,<-hL,<-hR2];rfl
theorem zZl {F G:Fil} (h:G.signs=F.signs) (acc:List Clm) (a:Act):wB G acc a=wB F acc a:=by
 unfold wB zGd;rw[h]
theorem zIo (F:Fil) (P:Int->Bool) (x:Act) (a b:List Clm) (h:a.filter (fun x=>P x.sign)=b.filter (fun x=>P x.sign)):(wB F a x).filter (fun x=>P x.sign)=(wB F b x).filter (fun x=>P x.sign):=by
 unfold wB
 split
 ·exact h
 ·rw[vQ,vQ,h]
theorem run_e {k day:Int} {f g:Fil} (h:Sim k day f g) (hA:(atV g day).acts=(atV f day).acts) (hB:Zj f) (r:Rlm) (forum:Int):(QL r forum g day).filter (fun x=>yh k (atV f day) x.sign)=(QL r forum f day).filter (fun x=>yh k (atV f day) x.sign):=by
 unfold QL
 rw[hA]
 refine jc _ _ _ _ (clm_e h hB r forum) fun x _ a b hab=> ?_
 rw[zZl h.at_.signs]
 exact zIo _ (yh k (atV f day)) x a b hab
section
variable {k day:Int} {f g:Fil} (h:At k day f g) (hA:(atV g day).acts=(atV f day).acts) (r:Rlm) (forum:Int) (c:Clm)
include h hA
theorem ZAk:yg r forum (atV g day) c day=yg r forum (atV f day) c day:=by
 have hL:∀n i,(atV f day).acts.length-i=n->qw r forum (atV g day) c day i=qw r forum (atV f day) c day i:=by
  intro n
  induction n with
  |zero=>
   intro i hn
   have hS:¬i<(atV f day).acts.length:=by omega
   unfold qw
   rw[hA,if_neg hS,if_neg hS,ZBy h.at_]
  |succ n ih=>
   intro i hn
   have hS:i<(atV f day).acts.length:=by omega
   unfold qw
   rw[hA,if_pos hS,if_pos hS,ih _ (by omega)]
 unfold yg
 rw[Ul h.at_,hL _ _ rfl]
theorem lap_e (h0:0<=c.sign) (h1:c.sign≠k):Wv r forum g c day=Wv r forum f c day:=by
 have h2:mxI c.sign 0≠k:=by unfold mxI;rw[if_neg (by omega)];exact h1
 have e1:=ZAk h hA r forum c
 have e2:=Ul h.at_ r forum
 have e3:∀q,Yf r forum q ⟨atV g day,c.sign,c.sign,-1,ZI r forum (atV f day) day,day⟩=Yf r forum q ⟨atV f day,c.sign,c.sign,-1,ZI r forum (atV f day) day,day⟩:=fun q=>XK h.at_ r forum q (-1) _ h1 h2
 have e4:(atV g day).signs=(atV f day).signs:=h.signs
 have hL:∀n i a,(atV f day).acts.length-i=n->qM r forum g c day a i=qM r forum f c day a i:=by
  intro n
  induction n with
  |zero=>
   intro i a hn
   have hS:¬i<(atV f day).acts.length:=by omega
   unfold qM
   rw[hA,if_neg hS,if_neg hS]
  |succ n ih=>
   intro i a hn
   have hS:i<(atV f day).acts.length:=by omega
   unfold qM
   rw[hA,if_pos hS,if_pos hS]
   simp only[e1,e2,e3,ih (i+1) _ (show (atV f day).acts.length-(i+1)=n by omega)]
 have e:jp r forum g c day=jp r forum f c day:=by
  unfold jp
  simp only[e1,e2,e3,e4,hL _ _ _ rfl]
 unfold Wv
 rw[e]
end
theorem zPb {q:Clm->Clm} (hq:∀x,(q x).sign=x.sign) (P:Int->Bool):∀l:List Clm,(l.map q).filter (fun x=>P x.sign)=(l.filter fun x=>P x.sign).map q:=by
 intro l
 induction l with
 |nil=>rfl
 |cons x l ih=>
  rw[List.map_cons]
  cases h:P x.sign
  ·rw[List.filter_cons_of_neg (by rw[hq,h];decide),List.filter_cons_of_neg (by rw[h];decide),ih]
  ·rw[List.filter_cons_of_pos (by rw[hq,h]),List.filter_cons_of_pos (by rw[h]),List.map_cons,ih]
theorem Uo (r:Rlm) (forum:Int) (f:Fil) (day:Int) (x:Clm):(UC r forum f day x).sign=x.sign:=by
 unfold UC;split<;>rfl
theorem Hr (r:Rlm) (forum:Int) (f:Fil) (day:Int) (P:Int->Bool):(YO r forum f day).filter (fun x=>P x.sign)=(((QL r forum f day).filter fun x=>P x.sign).filter fun y=> !Yx y r forum f day).map (UC r forum f day):=by
 unfold YO
 rw[zPb (Uo r forum f day),List.filter_filter,List.filter_filter]
 congr 2
 funext x
 exact Bool.and_comm _ _
theorem lcl_e {k day:Int} {f g:Fil} (h:Sim k day f g) (hA:(atV g day).acts=(atV f day).acts) (hB:Zj f) (r:Rlm) (forum:Int):(YO r forum g day).filter (fun x=>yh k (atV f day) x.sign)=(YO r forum f day).filter (fun x=>yh k (atV f day) x.sign):=by
 rw[Hr r forum g day (yh k (atV f day)),Hr r forum f day (yh k (atV f day)),run_e h hA hB]
 have hm:∀x,x∈(QL r forum f day).filter (fun x=>yh k (atV f day) x.sign)->Wv r forum g x day=Wv r forum f x day:=fun x hx=>by
  obtain ⟨h1,h2⟩:=List.mem_filter.1 hx
  have h3:=(UZ r forum f day x h1).1
  have h4:x.sign≠k:=by intro e;simp[yh,e]at h2
  exact lap_e h.at_ hA r forum x h3.1 h4
 have e:((QL r forum f day).filter fun x=>yh k (atV f day) x.sign).filter (fun y=> !Yx y r forum g day)=((QL r forum f day).filter fun x=>yh k (atV f day) x.sign).filter (fun y=> !Yx y r forum f day):=
  List.filter_congr fun x hx=>by unfold Yx;rw[hm x hx]
 rw[e]
 refine List.map_congr_left fun x hx=> ?_
 have:=hm x (List.mem_filter.1 hx).1
 unfold UC;rw[this]
theorem zPv (r:Rlm) (forum:Int) (f:Fil) (day:Int):∀x,x∈YO r forum f day->0<=x.sign/\x.sign<(atV f day).signs.length:=fun x hx=>by
 unfold YO at hx
 obtain ⟨y,hy,rfl⟩:=List.mem_map.1 hx
 rw[Uo]
 exact (UZ r forum f day y (List.mem_filter.1 hy).1).1
theorem zOc (f:Fil) (l:List Clm) (i:Int):Vd f l i=l.filter fun x=>(bif (bif (bif decide (0<=x.sign)then decide (x.sign<(f.signs.length:Int))else false)then (!decide (x.sign=i))else false)then (!decide (QG f x.sign=i))else false):=by
 have:∀n j a,l.length-j=n->j<=l.length->JK f l i a j=a++(l.drop j).filter fun x=>(bif (bif (bif decide (0<=x.sign)then decide (x.sign<(f.signs.length:Int))else false)then (!decide (x.sign=i))else false)then (!decide (QG f x.sign=i))else false):=by
  intro n
  induction n with
  |zero=>
   intro j a hn hj
   have hS:¬j<l.length:=by omega
   unfold JK
   rw[if_neg hS,show j=l.length by omega,List.drop_length];simp
  |succ n ih=>
   intro j a hn hj
   have hS:j<l.length:=by omega
   have e3:l.drop j=l.getD j default::l.drop (j+1):=by rw[List.drop_eq_getElem_cons hS,List.getD_eq_getElem?_getD,List.getElem?_eq_getElem hS];rfl
   unfold JK
   rw[if_pos hS,e3,ih _ _ (by omega) (by omega),ih _ _ (by omega) (by omega)]
   generalize l.getD j default=y
   split
   ·rename_i h;rw[List.filter_cons_of_pos (by exact h),List.append_assoc];rfl
   ·rename_i h;rw[List.filter_cons_of_neg (by exact h)]
 have h:=this _ 0 [] rfl (Nat.zero_le _)
 rw[List.drop_zero,List.nil_append]at h
 exact h
theorem zYb {F f:Fil} (hB:Zj f) (hl:F.signs.length<=f.signs.length) (he:∀i,i<F.signs.length->F.signs.getD i default=f.signs.getD i default):∀(n:Nat) (s:Int),0<=s->s<F.signs.length->qR F n s=qR f n s:=by
 intro n
 induction n with
 |zero=>intro s _ _;rfl
 |succ n ih=>
  intro s h0 h1
  have e:=he s.toNat (by omega)
  have hb:=hB s.toNat (by omega)
  rw[qR,qR,e]
  split
  ·rename_i hc
   have:=hb (by first|exact hc|(simp only[bb]at hc;exact hc))
   exact ih _ this.1 (by omega)
  ·rfl
theorem ZCf (f:Fil) (day:Int):(atV f day).signs.length<=f.signs.length/\∀i,i<(atV f day).signs.length->(atV f day).signs.getD i default=f.signs.getD i default:=by
 rw[yd]
 exact ⟨Wg _ _,fun i hi=>UQ _ _ hi⟩
theorem HN {f g:Fil} (hB:Zj f) {day:Int} (hs:(atV g day).signs=(atV f day).signs) (r:Rlm) (forum k:Int):Vd f (YO r forum g day) k=(YO r forum g day).filter fun x=>yh k (atV f day) x.sign:=by
 rw[zOc]
 refine List.filter_congr fun x hx=> ?_
 have h1:=zPv r forum g day x hx
 rw[hs]at h1
 have h2:=ZCf f day
 have h3:QG (atV f day) x.sign=QG f x.sign:=zYb hB h2.1 h2.2 _ _ h1.1 h1.2
 unfold yh
 rw[h3,decide_eq_true h1.1,decide_eq_true (show x.sign<(f.signs.length:Int)by omega)]
 cases decide (x.sign=k)<;>cases decide (QG f x.sign=k)<;>rfl
theorem zIm (l:List Clm):vN l l=true:=by
 have:∀n j,l.length-j=n->Qf l l j=true:=by
  intro n
  induction n with
  |zero=>
   intro j hn
   have hS:¬j<l.length:=by omega
   unfold Qf;rw[if_neg hS]
  |succ n ih=>
   intro j hn
   have hS:j<l.length:=by omega
   unfold Qf
   rw[if_pos hS,if_neg (by simp[KQ]),ih _ (by omega)]
 unfold vN
 rw[if_pos rfl,this _ _ rfl]
theorem zAi {k day:Int} {f g:Fil} (h:Sim k day f g) (hA:(atV g day).acts=(atV f day).acts) (hB:Zj f) (r:Rlm) (forum:Int):vN (Vd f (YO r forum f day) k) (Vd f (YO r forum g day) k)=true:=by
 rw[HN hB rfl,HN hB h.at_.signs,lcl_e h hA hB]
 exact zIm _
def UK (n:Int):Prop:=0<=n/\n<=1099511627776
structure Sums (f:Fil):Prop where
 bill:UK f.bill.sum
 alters:∀a,a∈f.alters->UK a.sum
 signs:∀s,s∈f.signs->(s.kind=1∨s.kind=4)->UK s.sum
 acts:∀a,a∈f.acts->(a.kind=4∨a.kind=5)->UK a.sum
theorem Sums.at_ {f:Fil} (h:Sums f) (day:Int):Sums (atV f day):=by
 rw[yd]
 exact ⟨h.bill,fun a ha=>h.alters a (List.mem_filter.1 ha).1,fun s hs=>h.signs s ((List.takeWhile_sublist _).subset hs),fun a ha=>h.acts a ((List.takeWhile_sublist _).subset ha)⟩
theorem UK.zero:UK 0:=⟨by decide,by decide⟩
theorem UK.min {a b:Int} (ha:UK a) (hb:UK b):UK (mnI a b):=by
 unfold mnI;split
 ·exact hb
 ·exact ha
theorem ZAu (f:Fil):(YH f).length<=f.signs.length+1:=by
 have h1:=Xu f
 have h2:=Zr ((ldR f).mergeSort fun x y=>decide (x<=y))
 have h3:((ldR f).mergeSort fun x y=>decide (x<=y)).length=(ldR f).length:=List.length_mergeSort _
 unfold YH
 split
 ·simp
 ·omega
theorem zVq (f:Fil) (day part:Int):(zJ (zj f day) part).length<=f.signs.length:=by
 have h1:=uY f (zR f day).1 (zR f day).2 (jv f part day) (ZK f)
 have h2:=uN f part day
 have h3:(ZK f).signs.length=0:=rfl
 show (yN f (zR f day).1 (zR f day).2 (jv f part day) (ZK f)).signs.length<=_
 omega
theorem at_n (f:Fil) (day:Int):(atV f day).signs.length<=f.signs.length/\(atV f day).acts.length<=f.acts.length:=by
 rw[yd];exact ⟨Wg _ _,Wg _ _⟩
theorem clm_n (r:Rlm) (forum:Int) (f:Fil) (day:Int) {n:Nat} (hn:f.signs.length<=n):(qc r forum f day).length<=(n+1)*((n+1)*n):=by
 have h0:=(at_n f day).1
 unfold qc
 split
 ·exact Nat.zero_le _
 ·have hO:∀p a o,(wC r forum f day p a o).length<=a.length+n:=fun p a o=>by
   have h1:=Yu (WW r forum f day p o) 1 (zBa r forum f day p o) (Zc (zj f day) p o.sign (zJ (zj f day) p)) a
   have h2:=(Vp (zj f day) p o.sign (zJ (zj f day) p)).1
   have h3:(zj f day).now.signs.length=(atV f day).signs.length:=rfl
   unfold wC;omega
  have hP:∀a p,(WX r forum f day a p).length<=a.length+(n+1)*n:=fun a p=>by
   have h1:=Yu (wC r forum f day p) n (hO p) (jW (YN r forum f day).1 (zJ (zj f day) p)) a
   have h2:=Vc (YN r forum f day).1 (JP (zJ (zj f day) p)) (zJ (zj f day) p) (HM (YN r forum f day).1)
   have h3:=zVq f day p
   have h4:(jW (YN r forum f day).1 (zJ (zj f day) p)).length<=n+1:=by unfold jW;omega
   have h5:(jW (YN r forum f day).1 (zJ (zj f day) p)).length*n<=(n+1)*n:=Nat.mul_le_mul_right _ h4
   unfold WX;omega
  have h1:=Yu (WX r forum f day) ((n+1)*n) hP (YH (atV f day)) []
  have h2:=ZAu (atV f day)
  have h3:(YH (atV f day)).length*((n+1)*n)<=(n+1)*((n+1)*n):=Nat.mul_le_mul_right _ (by omega)
  have h4:([]:List Clm).length=0:=rfl
  omega
theorem run_n (r:Rlm) (forum:Int) (f:Fil) (day:Int) {n m:Nat} (hn:f.signs.length<=n) (hm:f.acts.length<=m):(QL r forum f day).length<=(n+1)*((n+1)*n)+m*n:=by
 have h0:=clm_n r forum f day hn
 have h2:=at_n f day
 have:∀(l:List Act) (b:List Clm),qH (atV f day).signs.length (Kd f day) b->(l.foldl (wB (atV f day)) b).length<=b.length+l.length*n:=by
  intro l
  induction l with
  |nil=>intro b _;simp
  |cons a l ih=>
   intro b hb
   have h1:=Jj (g:=atV f day) a hb
   have h2:=ih _ h1.1
   have h3:(l.length+1)*n=l.length*n+n:=Nat.succ_mul _ _
   simp only[List.foldl_cons,List.length_cons]
   omega
 have h1:=this (atV f day).acts _ (Jw r forum f day)
 have h3:(atV f day).acts.length*n<=m*n:=Nat.mul_le_mul_right _ (by omega)
 unfold QL
 omega
theorem zSc {F G:Fil} (a a':Int) (b b':Bool):∀(l:List Nat) (c c':Chn),(∀i,i∈l->G.signs.getD i default=F.signs.getD i default)->c'.signs=c.signs->c'.holder=c.holder->c'.bearer=c.bearer->(yN G a' b' l c').signs=(yN F a b l c).signs:=by
 intro l
 induction l with
 |nil=>intro c c' _ h _ _;exact h
 |cons i l ih=>
  intro c c' hl h1 h2 h3
  have e:=hl i (by simp)
  have hb:vF G c' i=vF F c i:=by unfold vF;rw[e,h2,h3]
  rw[yN,yN,hb]
  split
  ·exact h1
  ·exact ih _ _ (fun j hj=>hl j (List.mem_cons_of_mem _ hj)) (by simp only[ZM,h1]) (by simp only[ZM,e]) (by simp only[ZM,e])
theorem zQw {r:Rlm} {f:Fil} {k:Nat} (h:Yb r f (k:Int)=true):
 ((f.signs.getD k default).kind=0/\k=0/\(f.signs.getD k default).who=f.bill.drawer/\(f.signs.getD k default).for_= -1/\(f.signs.getD k default).to_= -1/\(f.signs.getD k default).sum=0/\((f.signs.getD k default).flags=0∨(f.signs.getD k default).flags=1)/\(f.signs.getD k default).part=0/\(f.signs.getD k default).city=f.bill.city)∨
 ((f.signs.getD k default).kind=1/\0<k/\(f.signs.getD k default).who=f.bill.drawee/\(f.signs.getD k default).for_= -1/\(f.signs.getD k default).to_= -1/\(1<=(f.signs.getD k default).sum/\(f.signs.getD k default).sum<=1099511627776)/\(f.signs.getD k default).flags=0)∨
 ((f.signs.getD k default).kind=2/\0<k/\(f.signs.getD k default).for_= -1/\(-1<=(f.signs.getD k default).to_/\(f.signs.getD k default).to_<=IntKind.i64.wrap ((r.firms.length:Int)-1))/\(f.signs.getD k default).sum=0/\(0<=(f.signs.getD k default).flags/\(f.signs.getD k default).flags<=7)/\¬((IntKind.i64.wrap ((f.signs.getD k default).flags.tdiv 2)).tmod 2=1/\(IntKind.i64.wrap ((f.signs.getD k default).flags.tdiv 4)).tmod 2=1))∨
 ((f.signs.getD k default).kind=3/\0<k/\(f.signs.getD k default).to_= -1/\(f.signs.getD k default).sum=0/\(f.signs.getD k default).flags=0/\qf f (k:Int)=true/\¬(f.signs.getD (f.signs.getD k default).for_.toNat default).kind=3)∨
 ((f.signs.getD k default).kind=4/\0<k/\(f.signs.getD k default).to_= -1/\(1<=(f.signs.getD k default).sum/\(f.signs.getD k default).sum<=1099511627776)/\(f.signs.getD k default).flags=0/\¬(f.signs.getD k default).who=f.bill.drawee/\qf f (k:Int)=true/\((f.signs.getD (f.signs.getD k default).for_.toNat default).kind=0∨(f.signs.getD (f.signs.getD k default).for_.toNat default).kind=2)):=by
 unfold Yb at h
 rw[show ((k:Int)).toNat=k from rfl]at h
 split at h
 ·rename_i c0
  simp only[bb]at h
  exact .inl ⟨c0,by omega,by omega,by omega,by omega,by omega,by omega,by omega,by omega⟩
 ·split at h
  ·rename_i c1
   simp only[bb,Zy]at h
   exact .inr (.inl ⟨c1,by omega,by omega,by omega,by omega,by omega,by omega⟩)
  ·split at h
   ·rename_i c2
    simp only[bb,Zy]at h
    obtain ⟨⟨⟨⟨⟨h1,h2⟩,h3⟩,h4⟩,h5⟩,h6⟩:=h
    refine .inr (.inr (.inl ⟨c2,by omega,h2,h3,h4,h5,fun hx=> ?_⟩))
    rcases h6 with h6|h6
    ·exact h6 hx.1
    ·exact h6 hx.2
   ·split at h
    ·rename_i c3
     split at h
     ·cases h
     ·rename_i h1
      rw[Bool.not_eq_true]at h1
      simp only[bb]at h1 h
      exact .inr (.inr (.inr (.inl ⟨c3,by omega,by omega,by omega,by omega,h1.2,h⟩)))
    ·split at h
     ·rename_i c4
      split at h
      ·cases h
      ·rename_i h1
       rw[Bool.not_eq_true]at h1
       simp only[bb,Zy]at h1 h
       exact .inr (.inr (.inr (.inr ⟨c4,by omega,by omega,by omega,by omega,by omega,h1.2,h⟩)))
     ·cases h
section
variable {r:Rlm} {f:Fil} (hr:FitR r) (h:Ck r f)
include hr h
theorem Ck.sg {k:Nat} (hk:k<f.signs.length):Sg12 r f k (f.signs.getD k default):=zNb hr (vu h.bill) (h.sign k hk)
theorem Ck.backs:Zj f:=fun k hk hh=>by
 have hs:=(h.sg hr hk).fits
 have hb:qf f (k:Int)=true:=by
  rcases zQw hs with c|c|c|c|c
  ·omega
  ·omega
  ·omega
  ·exact c.2.2.2.2.2.1
  ·exact c.2.2.2.2.2.2.1
 have:=vJ (i:=(k:Int)) (by omega) hb
 exact this
theorem Ck.rises:jM f:=by
 have:∀n i:Nat,i+n<f.signs.length->(f.signs.getD i default).day<=(f.signs.getD (i+n) default).day:=by
  intro n
  induction n with
  |zero=>intro i _;exact Int.le_refl _
  |succ n ih=>
   intro i hi
   have h1:=ih i (by omega)
   have h2:=(h.sg hr (k:=i+(n+1)) hi).rise (by omega)
   rw[show i+(n+1)-1=i+n by omega]at h2
   omega
 intro i j hij hj
 have:=this (j-i) i (by omega)
 rwa[show i+(j-i)=j by omega]at this
theorem Ck.whos:vl r f:=fun s hs=>by
 obtain ⟨i,hi,rfl⟩:=List.getElem_of_mem hs
 have:=(h.sg hr hi).who
 rwa[List.getD_eq_getElem?_getD,List.getElem?_eq_getElem hi]at this
end
structure Pre (f G:Fil):Prop where
 bill:G.bill=f.bill
 len:G.signs.length<=f.signs.length
 at_:∀i,i<G.signs.length->G.signs.getD i default=f.signs.getD i default
section
variable {r:Rlm} {f G:Fil} (hr:FitR r) (h:Ck r f) (hp:Pre f G)
include hr h hp
end
def zYu (f:Fil) (a:Act):Prop:=(0<=a.at_/\a.at_<=(f.signs.length:Int)-1)/\(a.at_=0∨(f.signs.getD a.at_.toNat default).part=a.part)
def zTc (f:Fil) (a:Act):Prop:=zYu f a/\(f.signs.getD a.at_.toNat default).who=a.who
def zHz (r:Rlm) (a:Act):Prop:=0<=a.to_/\a.to_<=(r.firms.length:Int)-1
def ActC (r:Rlm) (f:Fil) (a:Act):Prop:=(0<=a.who/\a.who<=(r.firms.length:Int)-1)∧
 ((a.kind=0∨a.kind=1∨a.kind=2)/\zHz r a/\a.at_= -1/\a.sum=0/\a.form=0∨
  (a.kind=3∨a.kind=5)/\zHz r a/\a.at_= -1/\(0<=a.sum/\a.sum<=1099511627776)/\a.form=0∨
  a.kind=4/\zHz r a/\a.at_= -1/\(0<=a.sum/\a.sum<=1099511627776)/\(a.form=0∨a.form=1)∨
  a.kind=6/\zHz r a/\zTc f a/\(1<=a.sum/\a.sum<=1099511627776)/\a.form=0∨
  a.kind=9/\a.to_= -1/\zTc f a/\a.sum=0/\a.form=0∨
  (a.kind=7∨a.kind=8)/\a.to_= -1/\zYu f a/\a.sum=0/\a.form=0)
structure ActK (r:Rlm) (f:Fil) (k:Nat) (a:Act):Prop where
 part:0<=a.part/\a.part<=f.bill.parts-1
 city:0<=a.city/\a.city<r.cities.length
 kind:0<=a.kind/\a.kind<=9
 fits:ActC r f a
 first:f.bill.day<=a.day
 late:a.day<=100000
 sign:a.at_≠-1->(f.signs.getD a.at_.toNat default).day<=a.day
 prev:0<k->(f.acts.getD (k-1) default).day<=a.day
theorem HO {a b:Int} (h:orE a b=0):a=0/\b=0:=by
 unfold orE at h
 split at h
 ·rename_i h1;exact ⟨h1,h⟩
 ·rename_i h1;exact absurd h h1
theorem KN {l:List ByteArray} {most:Int} {fine:Nat->Bool} (h:zU l most fine=0):∀i,i<l.length->fine i=true:=by
 have:∀n i,l.length-i=n->zb l fine i=0->∀j,i<=j->j<l.length->fine j=true:=by
  intro n
  induction n with
  |zero=>intro i hn _ j h1 h2;omega
  |succ n ih=>
   intro i hn h j h1 h2
   have hS:i<l.length:=by omega
   unfold zb at h
   rw[if_pos hS]at h
   split at h
   ·split at h
    ·rename_i hf
     by_cases hj:j=i
     ·rw[hj];exact hf
     ·exact ih _ (by omega) h j (by omega) h2
    ·cases h
   ·rename_i hne;exact absurd h hne
 unfold zU at h
 split at h
 ·cases h
 ·exact fun i hi=>this _ 0 rfl h i (Nat.zero_le _) hi
theorem WG {i n:Int} :inV i n=true↔0<=i/\i<n:=by unfold inV;simp only[bb]
theorem ZCb {l:List Cho} (h:wD l 0=true):∀c,c∈l->0<=c.by_/\c.by_<5:=by
 have:∀n i,l.length-i=n->wD l i=true->∀j,i<=j->j<l.length->0<=(l.getD j default).by_/\(l.getD j default).by_<5:=by
  intro n
  induction n with
  |zero=>intro i hn _ j h1 h2;omega
  |succ n ih=>
   intro i hn h j h1 h2
   have hS:i<l.length:=by omega
   unfold wD at h
   rw[if_pos hS]at h
   split at h
   ·rename_i hf
    rw[WG]at hf
    by_cases hj:j=i
    ·rw[hj];exact hf
    ·exact ih _ (by omega) h j (by omega) h2
   ·cases h
 intro c hc
 obtain ⟨i,hi,rfl⟩:=List.getElem_of_mem hc
 have:=this _ 0 rfl h i (Nat.zero_le _) hi
 rwa[List.getD_eq_getElem?_getD,List.getElem?_eq_getElem hi]at this
theorem rtF_t {r:Rlm} (h:rtF r 0=true):∀x,x∈r.rates->wu r x=false:=by
 have:∀n i,r.rates.length-i=n->rtF r i=true->∀j,i<=j->j<r.rates.length->wu r (r.rates.getD j default)=false:=by
  intro n
  induction n with
  |zero=>intro i hn _ j h1 h2;omega
  |succ n ih=>
   intro i hn h j h1 h2
   have hS:i<r.rates.length:=by omega
   unfold rtF at h
   rw[if_pos hS]at h
   split at h
   ·cases h
   ·rename_i hf
    by_cases hj:j=i
    ·rw[hj];simpa using hf
    ·exact ih _ (by omega) h j (by omega) h2
 intro c hc
 obtain ⟨i,hi,rfl⟩:=List.getElem_of_mem hc
 have:=this _ 0 rfl h i (Nat.zero_le _) hi
 rwa[List.getD_eq_getElem?_getD,List.getElem?_eq_getElem hi]at this
theorem htF_t {r:Rlm} (h:htF r 0=true):∀x,x∈r.halts->WI r x=false:=by
 have:∀n i,r.halts.length-i=n->htF r i=true->∀j,i<=j->j<r.halts.length->WI r (r.halts.getD j default)=false:=by
  intro n
  induction n with
  |zero=>intro i hn _ j h1 h2;omega
  |succ n ih=>
   intro i hn h j h1 h2
   have hS:i<r.halts.length:=by omega
   unfold htF at h
   rw[if_pos hS]at h
   split at h
   ·cases h
   ·rename_i hf
    by_cases hj:j=i
    ·rw[hj];simpa using hf
    ·exact ih _ (by omega) h j (by omega) h2
 intro c hc
 obtain ⟨i,hi,rfl⟩:=List.getElem_of_mem hc
 have:=this _ 0 rfl h i (Nat.zero_le _) hi
 rwa[List.getD_eq_getElem?_getD,List.getElem?_eq_getElem hi]at this
theorem zUf {r:Rlm} (hr:FitR r) (h:ZJ r=0):RightR r:=by
 rw[zIr]at h
 unfold yw at h
 obtain ⟨_,h⟩:=HO h
 obtain ⟨hc,h⟩:=HO h
 have hc:=KN hc
 split at h
 ·cases h
 ·split at h
  ·obtain ⟨hf,h⟩:=HO h
   obtain ⟨ho,h⟩:=HO h
   obtain ⟨_,h⟩:=HO h
   have hf:=KN hf
   have ho:=KN ho
   unfold ww at h
   split at h
   ·cases h
   ·split at h
    ·rename_i h1
     split at h
     ·cases h
     ·split at h
      ·rename_i h2
       have h1:=rtF_t h1
       have h2:=htF_t h2
       refine ⟨hr,KZ (Q:=fun o:Od=>∀c,c∈o.choices->0<=c.by_/\c.by_<5) fun i hi=> ?_,fun o hq=>(hr.order o hq).2,KZ (Q:=fun c:Cty=>0<=c.ord/\c.ord<r.orders.length/\0<=c.cur/\c.cur<r.currencies.length) fun i hi=> ?_,KZ (Q:=fun c:Frm=>0<=c.city/\c.city<r.cities.length) fun i hi=> ?_,fun x hx=> ?_,fun x hx=> ?_⟩
       ·have:=ho i (by unfold orderN;simpa using hi)
        unfold qK at this
        split at this
        ·rename_i hq;exact ZCb hq
        ·cases this
       ·have:=hc i (by unfold cityN;simpa using hi)
        unfold jH at this
        split at this
        ·split at this
         ·cases this
         ·rename_i hq
          rw[Bool.not_eq_true]at hq
          unfold WY at hq
          simp only[bb,WG]at hq
          omega
        ·cases this
       ·have:=hf i (by unfold firmN;simpa using hi)
        unfold wM at this
        simp only[bb,WG]at this
        exact this.1
       ·have:=h1 x hx
        unfold wu at this
        simp only[bb,WG]at this
        omega
       ·have:=h2 x hx
        unfold WI at this
        simp only[bb,WG]at this
        omega
      ·cases h
    ·cases h
  ·cases h
structure Good (r:Rlm) (f:Fil):Prop where
 rr:RR r
 fi:FitFi f
 ck:Ck r f
 s20:f.signs.length<=20
 a30:f.acts.length<=30
theorem WP {r:Rlm} {f:Fil} (hm:MemX r) (h:zAo r f=true):Good r f:=by
 unfold zAo at h
 simp only[bb]at h
 obtain ⟨⟨⟨⟨h1,h2⟩,h3⟩,h4⟩,h5⟩:=h
 obtain ⟨hr,hF⟩:=jC hm h1
 exact ⟨⟨zUf hr h2,fun o ho=>⟨(hr.order o ho).2.1,(hr.order o ho).2.2,zRe hm h1 o ho⟩⟩,hF,zXo h3,by omega,by omega⟩
def wLo (x y:Fct):Bool:=bif decide (y.at_<x.at_)then true else (bif decide (y.at_=x.at_)then decide (y.kind<x.kind)else false)
def wHi (x y:Fct):Bool:=bif decide (x.at_<y.at_)then true else (bif decide (y.at_=x.at_)then decide (x.kind<y.kind)else false)
theorem zTe (f:Fil) (x:Fct):jN f x=f∨jN f x=⟨f.bill,f.signs,f.alters,f.acts,f.facts.filter (wLo x)++ [x]++f.facts.filter (wHi x)⟩:=by
 have dr:∀i,i<f.facts.length->f.facts.drop i=f.facts.getD i default::f.facts.drop (i+1):=fun i hi=>by
  rw[List.drop_eq_getElem_cons hi,List.getD_eq_getElem?_getD,List.getElem?_eq_getElem hi];rfl
 have h2:∀n i a a1 k1,f.facts.length-i=n->i<=f.facts.length->yG f x a1 k1 a i=⟨f.bill,f.signs,f.alters,f.acts,a++(f.facts.drop i).filter (wHi x)⟩:=by
  intro n
  induction n with
  |zero=>
   intro i a a1 k1 hn hi
   have hS:¬i<f.facts.length:=by omega
   unfold yG
   rw[if_neg hS,show i=f.facts.length by omega,List.drop_length];simp
  |succ n ih=>
   intro i a a1 k1 hn hi
   have hS:i<f.facts.length:=by omega
   unfold yG
   rw[if_pos hS,dr i hS,ih _ _ _ _ (by omega) hS,ih _ _ _ _ (by omega) hS]
   generalize f.facts.getD i default=y
   split
   ·rename_i h;rw[List.filter_cons_of_pos (by exact h),List.append_assoc];rfl
   ·rename_i h;rw[List.filter_cons_of_neg (by exact h)]
 have h1:∀n i a,f.facts.length-i=n->i<=f.facts.length->YR f x a i=⟨f.bill,f.signs,f.alters,f.acts,a++(f.facts.drop i).filter (wLo x)++ [x]++f.facts.filter (wHi x)⟩:=by
  intro n
  induction n with
  |zero=>
   intro i a hn hi
   have hS:¬i<f.facts.length:=by omega
   unfold YR
   rw[if_neg hS,show i=f.facts.length by omega,List.drop_length,h2 _ 0 _ _ _ rfl (Nat.zero_le _)];simp
  |succ n ih=>
   intro i a hn hi
   have hS:i<f.facts.length:=by omega
   unfold YR
   rw[if_pos hS,dr i hS,ih _ _ (by omega) hS,ih _ _ (by omega) hS]
   generalize f.facts.getD i default=y
   split
   ·rename_i h;rw[List.filter_cons_of_pos (by exact h),List.append_assoc a];rfl
   ·rename_i h;rw[List.filter_cons_of_neg (by exact h)]
 unfold jN
 split
 ·exact .inl rfl
 ·refine .inr ?_
  rw[h1 _ 0 _ rfl (Nat.zero_le _)];simp
theorem zRb {α:Type} {p q:α->Bool} (h:∀y,p y=true->q y=false):∀l:List α,(l.filter p).length+(l.filter q).length<=l.length:=by
 intro l
 induction l with
 |nil=>exact Nat.le_refl _
 |cons a l ih=>
  cases hp:p a with
  |true=>
   rw[List.filter_cons_of_pos hp,List.filter_cons_of_neg (by rw[h a hp];decide)]
   simp only[List.length_cons];omega
  |false=>
   rw[List.filter_cons_of_neg (by rw[hp];decide)]
   cases hq:q a with
   |true=>rw[List.filter_cons_of_pos hq];simp only[List.length_cons];omega
   |false=>rw[List.filter_cons_of_neg (by rw[hq];decide)];simp only[List.length_cons];omega
def FgI (f:Fil) (s:Int) (n:Nat) (b:Fil):Prop:=b.bill=f.bill/\b.signs=f.signs/\b.alters=f.alters/\b.acts=f.acts/\b.facts.length<=300+n/\∀i,i≠s->b.facts.filter (fun x=>decide (x.at_=i))=f.facts.filter (fun x=>decide (x.at_=i))
theorem FgI.with_ {f:Fil} {s:Int} {n:Nat} {b:Fil} (h:FgI f s n b) (k v:Int):FgI f s (n+1) (jN b ⟨k,s,v⟩):=by
 obtain ⟨h1,h2,h3,h4,h5,h6⟩:=h
 rcases zTe b ⟨k,s,v⟩with e|e<;>rw[e]
 ·exact ⟨h1,h2,h3,h4,by omega,h6⟩
 ·refine ⟨h1,h2,h3,h4,?_,fun i hi=> ?_⟩
  ·have:=zRb (p:=wLo (⟨k,s,v⟩:Fct)) (q:=wHi (⟨k,s,v⟩:Fct)) (fun y hy=>by
    unfold wLo at hy;unfold wHi
    simp only[bb]at hy⊢
    omega) b.facts
   simp only[List.length_append,List.length_cons,List.length_nil];omega
  ·rw[<-h6 i hi]
   show (b.facts.filter (wLo (⟨k,s,v⟩:Fct))++ [(⟨k,s,v⟩:Fct)]++b.facts.filter (wHi (⟨k,s,v⟩:Fct))).filter _=_
   rw[List.filter_append,List.filter_append,List.filter_filter,List.filter_filter,List.filter_cons_of_neg (by simpa using fun e:s=i=>hi e.symm),List.filter_nil,List.append_nil]
   by_cases hlt:i<s
   ·have e1:b.facts.filter (fun a=>decide (a.at_=i)&&wLo ⟨k,s,v⟩ a)=b.facts.filter fun a=>decide (a.at_=i):=List.filter_congr fun a _=>by
     by_cases q:a.at_=i
     ·rw[decide_eq_true q];unfold wLo;rw[decide_eq_true (show a.at_<s by omega)];rfl
     ·rw[decide_eq_false q];rfl
    have e2:b.facts.filter (fun a=>decide (a.at_=i)&&wHi ⟨k,s,v⟩ a)= []:=by
     rw[List.filter_eq_nil_iff]
     intro a _ hx
     unfold wHi at hx
     simp only[bb]at hx
     omega
    rw[e1,e2,List.append_nil]
   ·have e1:b.facts.filter (fun a=>decide (a.at_=i)&&wLo ⟨k,s,v⟩ a)= []:=by
     rw[List.filter_eq_nil_iff]
     intro a _ hx
     unfold wLo at hx
     simp only[bb]at hx
     omega
    have e2:b.facts.filter (fun a=>decide (a.at_=i)&&wHi ⟨k,s,v⟩ a)=b.facts.filter fun a=>decide (a.at_=i):=List.filter_congr fun a _=>by
     by_cases q:a.at_=i
     ·rw[decide_eq_true q];unfold wHi;rw[decide_eq_true (show s<a.at_ by omega)];rfl
     ·rw[decide_eq_false q];rfl
    rw[e1,e2,List.nil_append]
theorem FgI.start {f:Fil} (hF:f.facts.length<=300) (s:Int):FgI f s 0 ⟨f.bill,f.signs,f.alters,f.acts,f.facts.filter fun x=> !decide (x.at_=s)⟩:=by
 refine ⟨rfl,rfl,rfl,rfl,Nat.le_trans (List.length_filter_le _ _) (by omega),fun i hi=> ?_⟩
 show (f.facts.filter _).filter _=_
 rw[List.filter_filter]
 refine List.filter_congr fun a _=> ?_
 by_cases q:a.at_=i
 ·rw[decide_eq_true q,decide_eq_false (show ¬a.at_=s by omega)];rfl
 ·rw[decide_eq_false q];rfl
theorem FgI.less {f:Fil} {s:Int} {n m:Nat} {b:Fil} (h:FgI f s n b) (hm:n<=m):FgI f s m b:=⟨h.1,h.2.1,h.2.2.1,h.2.2.2.1,by have:=h.2.2.2.2.1;omega,h.2.2.2.2.2⟩
theorem FgI.fit {f:Fil} {s:Int} {n:Nat} {b:Fil} (h:FgI f s n b) (hn:n<=100) (hF:FitFi f):FitFi b:=by
 obtain ⟨h1,h2,h3,h4,h5,_⟩:=h
 exact ⟨h2▸hF.signs,h3▸hF.alters,h4▸hF.acts,by omega⟩
theorem FgI.more {f:Fil} {s:Int} {n:Nat} {b:Fil} (h:FgI f s n b) {r:Rlm} (hB:Zj f) (hd:jM f) (hw:vl r f) (hp:0<=f.bill.pay/\f.bill.pay<r.cities.length):Zj b/\jM b/\vl r b/\0<=b.bill.pay/\b.bill.pay<r.cities.length:=by
 obtain ⟨h1,h2,_⟩:=h
 unfold Zj jM vl
 rw[h1,h2]
 exact ⟨hB,hd,hw,hp⟩
theorem zYo {f:Fil} {s:Int} {n:Nat} {b:Fil} (h:FgI f s n b) (day:Int):At s day f b/\(atV b day).acts=(atV f day).acts:=by
 obtain ⟨h1,h2,h3,h4,_,h6⟩:=h
 unfold At
 rw[yd,yd,h1,h2,h3,h4]
 refine ⟨⟨rfl,rfl,rfl,.inl rfl,fun i hi=> ?_⟩,rfl⟩
 show (b.facts.filter _).filter _=(f.facts.filter _).filter _
 have e:∀l:List Fct,(l.filter fun x=>va x.at_ (upto f.signs day).length).filter (fun x=>decide (x.at_=i))=(l.filter fun x=>decide (x.at_=i)).filter fun x=>va x.at_ (upto f.signs day).length:=fun l=>by
  rw[List.filter_filter,List.filter_filter]
  exact List.filter_congr fun a _=>Bool.and_comm _ _
 rw[e,e,h6 i hi]
theorem zRc {f:Fil} {s:Int} {n:Nat} {b:Fil} (h:FgI f s n b) (day part:Int):zJ (zj b day) part=zJ (zj f day) part:=by
 obtain ⟨h1,h2,h3,h4,_⟩:=h
 have e1:wA b day=wA f day:=by unfold wA;rw[h4]
 have e2:jv b part day=jv f part day:=by
  unfold jv
  have:KR b part day=KR f part day:=by funext k;unfold KR;rw[h2,e1]
  rw[this,h2]
 show (jg b part day).signs=(jg f part day).signs
 unfold jg
 rw[e2]
 exact zSc _ _ _ _ _ _ _ (fun i _=>by rw[h2]) rfl (by unfold ZK;rw[h1]) (by unfold ZK;rw[h1])
theorem ZBr {f:Fil} {s:Int} {n:Nat} {b:Fil} (h:FgI f s n b) (hF:FitFi f) (hd:jM f) (hs:0<=s) (hk:¬(f.signs.getD s.toNat default).kind=2) (day:Int):Sim s day f b:=by
 refine ⟨(zYo h day).1,fun part=>zRc h day part,fun part l hl=> ?_⟩
 have h0:=(Xt hF hd day part).2 l hl
 refine ⟨h0.1,fun e=>hk ?_⟩
 have hm:l∈(yN f (zR f day).1 (zR f day).2 (jv f part day) (ZK f)).signs:=hl
 rcases uX f _ _ _ _ l hm with h1|⟨i,hi,rfl⟩
 ·cases h1
 ·have h2:=(List.mem_filter.1 hi).2
  unfold KR at h2
  simp only[bb]at h2
  rw[<-e]
  exact h2.1.1.1
theorem zYn (r:Rlm) (forum:Int) (f:Fil) (day:Int) (h1:f.signs.length<=20) (h2:f.acts.length<=30):(YO r forum f day).length<=10000:=by
 have h:=run_n r forum f day h1 h2
 unfold YO
 rw[List.length_map]
 exact Nat.le_trans (List.length_filter_le _ _) (Nat.le_trans h (by decide))
theorem oth_n (f:Fil) (l:List Clm) (i:Int):(Vd f l i).length<=l.length:=by rw[zOc];exact List.length_filter_le _ _
theorem jB {l:List Fct} {k:Nat} (hk:k<l.length) {s:Int} {a:List Fct} (ha:a=(l.take k).filter fun x=> !decide (x.at_=s)):((l.getD k default).at_=s->a=(l.take (k+1)).filter fun x=> !decide (x.at_=s))/\(¬(l.getD k default).at_=s->a++ [l.getD k default]=(l.take (k+1)).filter fun x=> !decide (x.at_=s)):=by
 rw[Jh hk,List.filter_append,<-ha]
 generalize l.getD k default=y
 refine ⟨fun h=> ?_,fun h=> ?_⟩
 ·rw[List.filter_cons_of_neg (by rw[decide_eq_true h];decide)];simp
 ·rw[List.filter_cons_of_pos (by rw[decide_eq_false h];rfl)];rfl
theorem FgI.start2 {f:Fil} {s:Int} {k:Nat} {l:List Fct} (hl:l=(f.facts.take k).filter fun x=> !decide (x.at_=s)) (hk:¬(k:Int)<(f.facts.length:Int)) (hF:f.facts.length<=300):FgI f s 0 ⟨f.bill,f.signs,f.alters,f.acts,l⟩:=by
 rw[hl,List.take_of_length_le (by omega)]
 exact FgI.start hF s
def JE (q:Int):Rul:=⟨q,1,1,[]⟩
theorem vn (q:Int):GC Tryz.prog 35 [iG q] (rulG (JE q)):=by
 refine zA Tryz.func35 ?_
 refine gE [0,2] ?_
 refine gE [2] ?_
 refine Zf env ?_
 exact Ent.agg ⟨Ent.refl _,Ent.refl _,Ent.refl _,Ent.nil,trivial⟩
def ZG:Rlm:=⟨[(⟨#[100]⟩:ByteArray)],[⟨(⟨#[97]⟩:ByteArray),0,0,[],[],[]⟩],[0],[⟨(⟨#[102,48]⟩:ByteArray),0,0⟩,⟨(⟨#[102,49]⟩:ByteArray),0,0⟩,⟨(⟨#[102,50]⟩:ByteArray),0,0⟩,⟨(⟨#[102,51]⟩:ByteArray),0,0⟩],[⟨(⟨#[111]⟩:ByteArray),false,[],[JE 0,JE 1,JE 2,JE 3]⟩],[],[],[]⟩
def zM:Fil:=⟨⟨0,1,2,1000,0,⟨2,30,0⟩,100,0,0,-1,0,0,1⟩,[⟨0,0,0,-1,-1,0,100,0,0⟩,⟨1,0,1,-1,-1,1000,101,0,0⟩,⟨2,0,2,-1,3,0,102,0,0⟩],[],[⟨2,3,1,0,-1,0,130,0,0⟩],[]⟩
def nlD:D:= .sc (.slice none 0 0)
def ctN (c:Cty):List D:=[.sc (.string c.name),.sc (.int .i64 c.ord),.sc (.int .i64 c.cur),nlD,nlD,nlD]
def odN (o:Od):List D:=[.sc (.string o.name),.sc (.bool o.acc),nlD,.row default zCs o.rules]
theorem zPm:GM Tryz.prog 17 [] [] (.tup [rlG ZG,(.agg [iG zM.bill.drawer,iG zM.bill.drawee,iG zM.bill.payee,iG zM.bill.sum,iG zM.bill.cur,iG zM.bill.ten.kind,iG zM.bill.ten.n,iG zM.bill.ten.unit,iG zM.bill.day,iG zM.bill.city,iG zM.bill.pay,iG zM.bill.need,iG zM.bill.rate,iG zM.bill.flags,iG zM.bill.parts,.d (.row default sgC zM.signs),.d (.row default alC zM.alters),.sl 0 9 0 1,.d (.row default fcC zM.facts)])]) [some (.row 66 9 default acC zM.acts 0)]:=by
 refine GM.ent (g:= .tup [(.agg [.d (.row default ze ZG.currencies),.d (.row default ctN ZG.cities),.d (.row default inC ZG.groups),.d (.row default fmC ZG.firms),.d (.row default odN ZG.orders),.d nlD,.d nlD,.d nlD]),(.agg [iG zM.bill.drawer,iG zM.bill.drawee,iG zM.bill.payee,iG zM.bill.sum,iG zM.bill.cur,iG zM.bill.ten.kind,iG zM.bill.ten.n,iG zM.bill.ten.unit,iG zM.bill.day,iG zM.bill.city,iG zM.bill.pay,iG zM.bill.need,iG zM.bill.rate,iG zM.bill.flags,iG zM.bill.parts,.d (.row default sgC zM.signs),.d nlD,.sl 0 9 0 1,.d nlD])]) ?_ (Ent.tup ⟨Ent.agg ⟨Ent.refl _,Ent.rowEnt fun x hx=>by (rw[List.mem_singleton.1 hx];exact ⟨Je.refl _,Je.refl _,Je.refl _,Je.nil,Je.nil,Je.nil,trivial⟩),Ent.refl _,Ent.refl _,Ent.rowEnt fun x hx=>by (rw[List.mem_singleton.1 hx];exact ⟨Je.refl _,Je.refl _,Je.nil,Je.refl _,trivial⟩),Ent.nil,Ent.nil,Ent.nil,trivial⟩,Ent.agg ⟨Ent.refl _,Ent.refl _,Ent.refl _,Ent.refl _,Ent.refl _,Ent.refl _,Ent.refl _,Ent.refl _,Ent.refl _,Ent.refl _,Ent.refl _,Ent.refl _,Ent.refl _,Ent.refl _,Ent.refl _,Ent.refl _,Ent.nil,Ent.refl _,Ent.nil,trivial⟩,trivial⟩)
 refine ZO Tryz.func17 ?_
 refine gE [0,1] ?_
 refine gE [0,1,2] ?_
 refine vB ?_
 refine Zl env false 15 [.el default ze ZG.currencies,.el default ctN ZG.cities,.el default inC ZG.groups,.el default fmC ZG.firms,.call (vn 0),.call (vn 1),.call (vn 2),.call (vn 3),.el default zCs ([JE 0,JE 1,JE 2,JE 3]:List Rul)] ?_
 refine zWh 6 ?_
 refine Zl env false 5 [.el default odN ZG.orders] ?_
 refine jb [0,1,2,3] ?_
 refine gE [0,1,2,3,4] ?_
 refine gR [.el default sgC zM.signs,.el default sgC zM.signs] [0,1,2,3,4] ?_ (hp:=(by simp only[zC,Int.toNat_natCast];repeat' first|exact trivial|exact zI.refl _|exact zH.refl _|exact rfl|omega|apply And.intro|intro _|(simp[zP];done)|(simp only[List.length_append,List.length_cons,List.length_nil];omega)|(simp[*];done)|(simp[zM];done)))
 refine gR [.el default acC zM.acts,.el default acC zM.acts] [0,1,3,4] ?_ (hp:=(by simp only[zC,Int.toNat_natCast];repeat' first|exact trivial|exact zI.refl _|exact zH.refl _|exact rfl|omega|apply And.intro|intro _|(simp[zP];done)|(simp only[List.length_append,List.length_cons,List.length_nil];omega)|(simp[*];done)|(simp[zM];done)))
 refine QA 2 ?_
 refine QA 3 ?_
 refine QA 4 ?_
 refine QA 5 ?_
 refine QA 7 ?_
 refine QA 11 ?_
 refine gE [0,1] ?_
 refine zWn env [(0,13)] [(.agg [.d (.row default ze ZG.currencies),.d (.row default ctN ZG.cities),.d (.row default inC ZG.groups),.d (.row default fmC ZG.firms),.d (.row default odN ZG.orders),.d nlD,.d nlD,.d nlD]),(.agg [iG zM.bill.drawer,iG zM.bill.drawee,iG zM.bill.payee,iG zM.bill.sum,iG zM.bill.cur,iG zM.bill.ten.kind,iG zM.bill.ten.n,iG zM.bill.ten.unit,iG zM.bill.day,iG zM.bill.city,iG zM.bill.pay,iG zM.bill.need,iG zM.bill.rate,iG zM.bill.flags,iG zM.bill.parts,.d (.row default sgC zM.signs),.d nlD,.sl 0 9 0 1,.d nlD])] (hp:= ?_)
 simp only[zC]
 repeat' first|exact trivial|exact rfl|(simp;done)|omega|apply And.intro
def zSi:Go.Shelf.Ren:=⟨fun|240=>75|276=>122|169=>45|n=>n,fun|0=>0|3=>3|4=>4|5=>5|9=>9|20=>20|37=>107|70=>106|72=>109|127=>150|164=>200|n=>n,fun n=>n⟩
theorem zYr:Go.Proofs.Lays.n240 Tryz.prog zSi:= {
 mixed:=by kernel_rfl
 f240:=Tryz.func75.trans (congrArg some (by kernel_rfl))
 f276:=Tryz.func122.trans (congrArg some (by kernel_rfl))
 t0:=Tryz.underlying0
 a0:=Tryz.isAgg0
 z0:=Tryz.sizeOf0
 v0:=Tryz.zeroValue0
 t4:=Tryz.underlying4
 a4:=Tryz.isAgg4
 z4:=Tryz.sizeOf4
 v4:=Tryz.zeroValue4
 t9:=Tryz.underlying9
 a9:=Tryz.isAgg9
 z9:=Tryz.sizeOf9
 v9:=Tryz.zeroValue9
 t20:=Tryz.underlying20
 a20:=Tryz.isAgg20
 z20:=Tryz.sizeOf20
 v20:=Tryz.zeroValue20
 t70:=Tryz.underlying106
 a70:=Tryz.isAgg106
 z70:=Tryz.sizeOf106
 v70:=Tryz.zeroValue106
 t72:=Tryz.underlying109
 a72:=Tryz.isAgg109
 z72:=Tryz.sizeOf109
 v72:=Tryz.zeroValue109
 t164:=Tryz.underlying200
 a164:=Tryz.isAgg200
 z164:=Tryz.sizeOf200
 v164:=Tryz.zeroValue200}
theorem bl169:Go.Proofs.Lays.n169 Tryz.prog zSi:= {
 mixed:=by kernel_rfl
 f169:=Tryz.func45.trans (congrArg some (by kernel_rfl))
 t0:=Tryz.underlying0
 a0:=Tryz.isAgg0
 z0:=Tryz.sizeOf0
 v0:=Tryz.zeroValue0
 t3:=Tryz.underlying3
 a3:=Tryz.isAgg3
 z3:=Tryz.sizeOf3
 v3:=Tryz.zeroValue3
 t9:=Tryz.underlying9
 a9:=Tryz.isAgg9
 z9:=Tryz.sizeOf9
 v9:=Tryz.zeroValue9
 t37:=Tryz.underlying107
 a37:=Tryz.isAgg107
 z37:=Tryz.sizeOf107
 v37:=Tryz.zeroValue107
 t70:=Tryz.underlying106
 a70:=Tryz.isAgg106
 z70:=Tryz.sizeOf106
 v70:=Tryz.zeroValue106
 t72:=Tryz.underlying109
 a72:=Tryz.isAgg109
 z72:=Tryz.sizeOf109
 v72:=Tryz.zeroValue109
 t127:=Tryz.underlying150
 a127:=Tryz.isAgg150
 z127:=Tryz.sizeOf150
 v127:=Tryz.zeroValue150}
theorem blX:Go.Proofs.Builder.Extra Tryz.prog zSi:= {
 sizeBuilder:=by kernel_rfl
 liesBuilder:=by kernel_rfl
 t5:=Tryz.underlying5
 a5:=Tryz.isAgg5
 z5:=Tryz.sizeOf5
 v5:=Tryz.zeroValue5
 infoByte:=by kernel_rfl
 cellsByte:=by kernel_rfl
 sizeByte:=by kernel_rfl
 neB5:=by decide}
theorem ZCe:GM Tryz.prog 75 [.ptr 0 0 0 0] [.tbx 109 [.pointer none,.slice none 0 0]] (.tup []) [some (.box [.ptr 0 0 0 0,.d (.sc (.slice none 0 0))])]:=
 ZBn Tryz.func75 rfl rfl fun b w h0 h1 h2=>Go.Proofs.Any.Builder_copyCheck_fresh zYr blX.toX72 b w h0 h1 h2
theorem ZCd (xs:List UInt8):GM Tryz.prog 75 [.ptr 0 0 0 0] [.box [.ptr 0 0 0 0,.sl 1 1 0 xs.length],.row 5 1 (default:UInt8) byC xs 0] (.tup []) [some (.box [.ptr 0 0 0 0,.sl 1 1 0 xs.length]),some (.row 5 1 (default:UInt8) byC xs 0)]:=
 ZBm Tryz.func75 rfl rfl fun b w h0=>Go.Proofs.Any.Builder_copyCheck_used zYr blX.toX72 b w h0
theorem zXv (xs:List UInt8) (hx:xs≠ []):GM Tryz.prog 45 [.ptr 0 0 0 0] [.box [.ptr 0 0 0 0,.sl 1 1 0 xs.length],.row 5 1 (default:UInt8) byC xs 0] (.d (.sc (.string ⟨xs.toArray⟩))) [none,none]:=
 ZBl Tryz.func45 rfl rfl (fun _=>rfl) hx fun b g cap T p cur w h1 h2 h3 h4 h5 h6=>zSg bl169 blX xs hx b g cap T p cur w h1 h2 h3 h4 h5 h6
theorem byC_L (l:List UInt8) (s:ByteArray):zP byC (l++s.data.toList)=zP byC l++yZ s:=by
 unfold zP yZ
 rw[List.map_append];rfl
theorem zYx (s:ByteArray) (hs:s.size<=1000000):GM Tryz.prog 38 [.ptr 0 0 0 0,.d (.sc (.string s))] [.tbx 109 [.pointer none,.slice none 0 0]] (.tup [.junk,.junk]) [some (.box [.ptr 0 0 0 0,.sl 1 1 0 s.data.toList.length]),some (.row 5 1 (default:UInt8) byC s.data.toList 0)]:=by
 refine ZO Tryz.func38 ?_
 refine gE [0,1,4,5] ?_
 refine gR [.callm [0] ZCe] [0,1,4,5] ?_
 refine vB ?_
 refine Zl env false 6 [] ?_
 refine zAb env (df:=(default:UInt8)) (cs:=byC) s.data.toList ?_ rfl (by omega)
 refine Zl env false 3 [] ?_
 refine jb [1,4,5] ?_
 refine gE [4,5] ?_
 refine yU env [.junk,.junk] (hp:= ?_)
 (try simp only[zC]);repeat' first|exact trivial|exact rfl|(simp;done)|omega|apply And.intro
theorem zYw (xs:List UInt8) (s:ByteArray) (hs:xs.length+s.size<=1000000):GM Tryz.prog 38 [.ptr 0 0 0 0,.d (.sc (.string s))] [.box [.ptr 0 0 0 0,.sl 1 1 0 xs.length],.row 5 1 (default:UInt8) byC xs 0] (.tup [.junk,.junk]) [some (.box [.ptr 0 0 0 0,.sl 2 1 0 (xs++s.data.toList).length]),none,some (.row 5 1 (default:UInt8) byC (xs++s.data.toList) 0)]:=by
 refine ZO Tryz.func38 ?_
 refine gE [0,1,4,5] ?_
 refine gR [.callm [0,1] (ZCd xs)] [0,1,4,5] ?_
 refine vB ?_
 refine Zl env false 6 [] ?_
 refine zAa env (df:=(default:UInt8)) (cs:=byC) (xs++s.data.toList) ?_ (byC_L xs s) rfl (by omega)
 refine Zl env false 3 [] ?_
 refine jb [1,4,5] ?_
 refine gE [4,5] ?_
 refine yU env [.junk,.junk] (hp:= ?_)
 (try simp only[zC]);repeat' first|exact trivial|exact rfl|(simp;done)|omega|apply And.intro
def yA (ws:List ByteArray):ByteArray:=Hv ws ⟨#[32]⟩++⟨#[10]⟩
theorem zPq (ws:List ByteArray) (hw:ws.length<=1000) (hj:(Lib.join (ws.map bsT) (bsT ⟨#[32]⟩)).length<=1000) (hl:(yA ws).size<=1000000):GM Tryz.prog 37 [bG true,.d (.row default ze ws),.ptr 0 0 0 0] [.tbx 109 [.pointer none,.slice none 0 0]] (.tup []) [some (.box [.ptr 0 0 0 0,.sl 1 1 0 (yA ws).data.toList.length]),some (.row 5 1 (default:UInt8) byC (yA ws).data.toList 0)]:=by
 have hA:(Hv ws ⟨#[32]⟩).size+(⟨#[10]⟩:ByteArray).size<=9223372036854775807:=by have h:=hl;unfold yA at h;rw[ByteArray.size_append]at h;omega
 refine ZO Tryz.func37 ?_
 refine gE [1,2,5] ?_
 refine zE (b:=true) (fun c=> ?_) (fun c=>Bool.noConfusion c)
 refine gR [.call (Vv ws ⟨#[32]⟩ (by omega) (by omega)),.callm [0] (zYx (yA ws) hl)] [2] ?_ (hp:=by simp only[zC,bb,toN];repeat' first|exact trivial|exact zI.refl _|exact zH.refl _|exact rfl|exact hA|omega|apply And.intro)
 refine KI env [] (hp:= ?_)
 (try simp only[zC]);repeat' first|exact trivial|exact rfl|(simp;done)|omega|apply And.intro
theorem zPp (xs:List UInt8) (ws:List ByteArray) (hw:ws.length<=1000) (hj:(Lib.join (ws.map bsT) (bsT ⟨#[32]⟩)).length<=1000) (hl:xs.length+(yA ws).size<=1000000):GM Tryz.prog 37 [bG true,.d (.row default ze ws),.ptr 0 0 0 0] [.box [.ptr 0 0 0 0,.sl 1 1 0 xs.length],.row 5 1 (default:UInt8) byC xs 0] (.tup []) [some (.box [.ptr 0 0 0 0,.sl 2 1 0 (xs++(yA ws).data.toList).length]),none,some (.row 5 1 (default:UInt8) byC (xs++(yA ws).data.toList) 0)]:=by
 have hA:(Hv ws ⟨#[32]⟩).size+(⟨#[10]⟩:ByteArray).size<=9223372036854775807:=by have h:=hl;unfold yA at h;rw[ByteArray.size_append]at h;omega
 refine ZO Tryz.func37 ?_
 refine gE [1,2,5] ?_
 refine zE (b:=true) (fun c=> ?_) (fun c=>Bool.noConfusion c)
 refine gR [.call (Vv ws ⟨#[32]⟩ (by omega) (by omega)),.callm [0,1] (zYw xs (yA ws) hl)] [2] ?_ (hp:=by simp only[zC,bb,toN];repeat' first|exact trivial|exact zI.refl _|exact zH.refl _|exact rfl|exact hA|omega|apply And.intro)
 refine KI env [] (hp:= ?_)
 (try simp only[zC]);repeat' first|exact trivial|exact rfl|(simp;done)|omega|apply And.intro
theorem zPo (xs:List UInt8) (ws:List ByteArray):GM Tryz.prog 37 [bG false,.d (.row default ze ws),.ptr 0 0 0 0] [.box [.ptr 0 0 0 0,.sl 1 1 0 xs.length],.row 5 1 (default:UInt8) byC xs 0] (.tup []) [some (.box [.ptr 0 0 0 0,.sl 1 1 0 xs.length]),some (.row 5 1 (default:UInt8) byC xs 0)]:=by
 refine ZO Tryz.func37 ?_
 refine gE [1,2,5] ?_
 refine zE (b:=false) (fun c=>Bool.noConfusion c) (fun c=> ?_)
 refine KI env [] (hp:= ?_)
 (try simp only[zC]);repeat' first|exact trivial|exact rfl|(simp;done)|omega|apply And.intro
theorem zKh {x:List UInt8} (ws:List ByteArray) (hx:x=(yA ws).data.toList) (hw:ws.length<=1000) (hj:(Lib.join (ws.map bsT) (bsT ⟨#[32]⟩)).length<=1000) (hl:(yA ws).size<=1000000):GM Tryz.prog 37 [bG true,.d (.row default ze ws),.ptr 0 0 0 0] [.tbx 109 [.pointer none,.slice none 0 0]] (.tup []) [some (.box [.ptr 0 0 0 0,.sl 1 1 0 x.length]),some (.row 5 1 (default:UInt8) byC x 0)]:=hx▸zPq ws hw hj hl
theorem qg {i:Bool} {x:List UInt8} (hi:i=true) (xs:List UInt8) (ws:List ByteArray) (hx:x=xs++(yA ws).data.toList) (hw:ws.length<=1000) (hj:(Lib.join (ws.map bsT) (bsT ⟨#[32]⟩)).length<=1000) (hl:xs.length+(yA ws).size<=1000000):GM Tryz.prog 37 [bG i,.d (.row default ze ws),.ptr 0 0 0 0] [.box [.ptr 0 0 0 0,.sl 1 1 0 xs.length],.row 5 1 (default:UInt8) byC xs 0] (.tup []) [some (.box [.ptr 0 0 0 0,.sl 2 1 0 x.length]),none,some (.row 5 1 (default:UInt8) byC x 0)]:=hi▸hx▸zPp xs ws hw hj hl
theorem Wu {i:Bool} (hi:i=false) (xs:List UInt8) (ws:List ByteArray):GM Tryz.prog 37 [bG i,.d (.row default ze ws),.ptr 0 0 0 0] [.box [.ptr 0 0 0 0,.sl 1 1 0 xs.length],.row 5 1 (default:UInt8) byC xs 0] (.tup []) [some (.box [.ptr 0 0 0 0,.sl 1 1 0 xs.length]),some (.row 5 1 (default:UInt8) byC xs 0)]:=hi▸zPo xs ws
theorem zAt (b:Bil) (fl:Int) (y n:ByteArray):GC Tryz.prog 40 [iG fl,sG y,sG n,.ep (bilC b)] (sG (if yO .i64 b.flags fl=0 then n else y)):=by
 refine zA Tryz.func40 ?_
 refine gE [0,1,2,3,7] ?_
 refine gE [1,2,7,12] ?_
 refine zT (fun c=> ?_) (fun c=> ?_)
 ·refine gE [7] ?_
  refine gT ?_
  rw[if_neg c];rfl
 ·refine gE [7] ?_
  refine gT ?_
  rw[if_pos c];rfl
structure Short (ws:List ByteArray):Prop where
 n:ws.length<=1000
 j:(Lib.join (ws.map bsT) (bsT ⟨#[32]⟩)).length<=1000
 l:(yA ws).size<=1001
theorem QO (s:ByteArray):s.data.toList.length=s.size:=by rw[Array.length_toList];rfl
theorem zKg (ws:List ByteArray):0<(yA ws).size:=by
 unfold yA
 rw[ByteArray.size_append]
 exact Nat.succ_pos _
structure Plain (r:Rlm) (b:Bil):Prop where
 fit:FitR r
 ok:UH r b=0
 payee:¬b.payee= -1
 rate:b.rate=0
 parts:b.parts=1
 need:b.need= -1
 flags:b.flags=0
 pay0:0<=b.payee/\b.payee<r.firms.length
 dre:0<=b.drawee/\b.drawee<r.firms.length
 drr:0<=b.drawer/\b.drawer<r.firms.length
 cit:0<=b.city/\b.city<r.cities.length
 pay:0<=b.pay/\b.pay<r.cities.length
 cur:0<=b.cur/\b.cur<r.currencies.length
 sum:0<=b.sum/\b.sum<=1099511627776
 day:yY (yE b.day).1/\yY (yE b.day).2.1/\yY (yE b.day).2.2.1
 ten:yY b.ten.n/\yY (yE b.ten.n).1/\yY (yE b.ten.n).2.1/\yY (yE b.ten.n).2.2.1
 money:(Za b.sum).size<=100/\(r.currencies.getD b.cur.toNat default).size<=100
 w1:Short [(if yO .i64 b.flags 1=0 then (⟨#[112,97,112,101,114]⟩:ByteArray)else (⟨#[98,105,108,108]⟩:ByteArray)),Za (0+1),(⟨#[111,102]⟩:ByteArray),Za b.parts]
 w2:Short [(⟨#[100,114,97,119,110,32,105,110]⟩:ByteArray),(r.cities.getD b.city.toNat default).name,(⟨#[111,110]⟩:ByteArray),QZ b.day]
 w3:Short [Qh b.ten]
 w4:Short [(⟨#[116,111]⟩:ByteArray),(r.firms.getD b.payee.toNat default).name,(if yO .i64 b.flags 4=0 then (⟨#[111,114,32,111,114,100,101,114]⟩:ByteArray)else (⟨#[110,111,116,32,116,111,32,111,114,100,101,114]⟩:ByteArray))]
 w5:Short [Za b.sum++(⟨#[32]⟩:ByteArray)++(r.currencies.getD b.cur.toNat default)]
 w6:Short [(⟨#[116,111,32,98,101,32,112,97,105,100,32,98,121]⟩:ByteArray),(r.firms.getD b.drawee.toNat default).name,(⟨#[105,110]⟩:ByteArray),(r.cities.getD b.pay.toNat default).name]
 w7:Short [(⟨#[115,105,103,110,101,100]⟩:ByteArray),(r.firms.getD b.drawer.toNat default).name]
theorem zTh (r:Rlm) (b:Bil) (h:Plain r b):∃s:ByteArray,s.size≠0/\GC Tryz.prog 18 [rlG r,zBj b,iG 0] (sG s):=by
 obtain ⟨hr,h0,h1,h2,h3,h4,h5,p1,p2,p3,p4,p5,p6,p7,⟨d1,d2,d3⟩,⟨d4,d5,d6,d7⟩,⟨m1,m2⟩,⟨n1,j1,l1⟩,⟨n2,j2,l2⟩,⟨n3,j3,l3⟩,⟨n4,j4,l4⟩,⟨n5,j5,l5⟩,⟨n6,j6,l6⟩,⟨n7,j7,l7⟩⟩:=h
 have f1:=hr.cities
 have f2:=hr.firms
 have f3:=hr.cur
 obtain ⟨x1,e1⟩:∃x,x=(yA ([(if yO .i64 b.flags 1=0 then (⟨#[112,97,112,101,114]⟩:ByteArray)else (⟨#[98,105,108,108]⟩:ByteArray)),Za (0+1),(⟨#[111,102]⟩:ByteArray),Za b.parts])).data.toList:=⟨_,rfl⟩
 have k1:x1.length<=1001:=by rw[e1,QO];omega
 obtain ⟨x2,e2⟩:∃x,x=x1++(yA ([(⟨#[100,114,97,119,110,32,105,110]⟩:ByteArray),(r.cities.getD b.city.toNat default).name,(⟨#[111,110]⟩:ByteArray),QZ b.day])).data.toList:=⟨_,rfl⟩
 have k2:x2.length<=2002:=by rw[e2,List.length_append,QO];omega
 obtain ⟨x3,e3⟩:∃x,x=x2++(yA ([Qh b.ten])).data.toList:=⟨_,rfl⟩
 have k3:x3.length<=3003:=by rw[e3,List.length_append,QO];omega
 obtain ⟨x4,e4⟩:∃x,x=x3++(yA ([(⟨#[116,111]⟩:ByteArray),(r.firms.getD b.payee.toNat default).name,(if yO .i64 b.flags 4=0 then (⟨#[111,114,32,111,114,100,101,114]⟩:ByteArray)else (⟨#[110,111,116,32,116,111,32,111,114,100,101,114]⟩:ByteArray))])).data.toList:=⟨_,rfl⟩
 have k4:x4.length<=4004:=by rw[e4,List.length_append,QO];omega
 obtain ⟨x5,e5⟩:∃x,x=x4++(yA ([Za b.sum++(⟨#[32]⟩:ByteArray)++(r.currencies.getD b.cur.toNat default)])).data.toList:=⟨_,rfl⟩
 have k5:x5.length<=5005:=by rw[e5,List.length_append,QO];omega
 obtain ⟨x6,e6⟩:∃x,x=x5++(yA ([(⟨#[116,111,32,98,101,32,112,97,105,100,32,98,121]⟩:ByteArray),(r.firms.getD b.drawee.toNat default).name,(⟨#[105,110]⟩:ByteArray),(r.cities.getD b.pay.toNat default).name])).data.toList:=⟨_,rfl⟩
 have k6:x6.length<=6006:=by rw[e6,List.length_append,QO];omega
 obtain ⟨x7,e7⟩:∃x,x=x6++(yA ([(⟨#[115,105,103,110,101,100]⟩:ByteArray),(r.firms.getD b.drawer.toNat default).name])).data.toList:=⟨_,rfl⟩
 have k7:x7.length<=7007:=by rw[e7,List.length_append,QO];omega
 have hne:x7≠ []:=by
  intro e
  rw[e7]at e
  have q:(yA ([(⟨#[115,105,103,110,101,100]⟩:ByteArray),(r.firms.getD b.drawer.toNat default).name])).size=0:=by rw[<-QO,(List.append_eq_nil_iff.1 e).2];rfl
  have:=zKg ([(⟨#[115,105,103,110,101,100]⟩:ByteArray),(r.firms.getD b.drawer.toNat default).name])
  omega
 refine ⟨⟨x7.toArray⟩,by (show x7.toArray.size≠0;simpa using hne),?_⟩
 refine zA Tryz.func18 ?_
 refine gE [2,3,4,6] ?_
 refine gR [.call (zXm r b hr),.call (QX 0 b.parts)] [2,3,4,6,21] ?_
 refine zE (fun c=> ?_) (fun c=> ?_)
 ·exfalso;simp only[h0,h3]at c;revert c;decide
 ·refine zv 0 ?_
  refine zv 1 ?_
  refine vB ?_
  refine zDz env ?_
  refine jb [2,3,4,6,7] ?_
  refine gE [2,3,4,6,7,8] ?_
  refine gE [2,3,4,6,7,8,9] ?_
  refine gR [.call (zAt b 1 (⟨#[98,105,108,108]⟩:ByteArray) (⟨#[112,97,112,101,114]⟩:ByteArray)),.call (yB (0+1) ⟨by decide,by decide⟩),.call (yB b.parts ⟨by omega,by omega⟩),.el default ze ([(if yO .i64 b.flags 1=0 then (⟨#[112,97,112,101,114]⟩:ByteArray)else (⟨#[98,105,108,108]⟩:ByteArray)),Za (0+1),(⟨#[111,102]⟩:ByteArray),Za b.parts]:List ByteArray),.callm [2] (zKh ([(if yO .i64 b.flags 1=0 then (⟨#[112,97,112,101,114]⟩:ByteArray)else (⟨#[98,105,108,108]⟩:ByteArray)),Za (0+1),(⟨#[111,102]⟩:ByteArray),Za b.parts]) e1 n1 j1 (by omega))] [2,3,4,6,7,8,9] ?_ (hp:=by simp only[zC,bb,toN];repeat' first|exact trivial|exact zI.refl _|exact zH.refl _|exact rfl|omega|apply And.intro|intro _)
  refine gR [.call (JY b.day d1 d2 d3),.el default ze ([(⟨#[100,114,97,119,110,32,105,110]⟩:ByteArray),(r.cities.getD b.city.toNat default).name,(⟨#[111,110]⟩:ByteArray),QZ b.day]:List ByteArray),.callm [2,4] (qg rfl x1 ([(⟨#[100,114,97,119,110,32,105,110]⟩:ByteArray),(r.cities.getD b.city.toNat default).name,(⟨#[111,110]⟩:ByteArray),QZ b.day]) e2 n2 j2 (by omega))] [2,3,4,6,7,8,9] ?_ (hp:=by simp only[zC,bb,toN];repeat' first|exact trivial|exact zI.refl _|exact zH.refl _|exact rfl|omega|apply And.intro|intro _)
  refine gR [.call (zUo b.ten d4 d5 d6 d7),.el default ze ([Qh b.ten]:List ByteArray),.callm [2,6] (qg rfl x2 ([Qh b.ten]) e3 n3 j3 (by omega))] [2,3,4,6,7,8,9] ?_ (hp:=by simp only[zC,bb,toN];repeat' first|exact trivial|exact zI.refl _|exact zH.refl _|exact rfl|omega|apply And.intro|intro _)
  refine gE [2,3,4,6,7,8,9,56] ?_
  refine zB (fun c=>absurd c h1) (fun c=> ?_)
  refine gR [.call (zAt b 4 (⟨#[110,111,116,32,116,111,32,111,114,100,101,114]⟩:ByteArray) (⟨#[111,114,32,111,114,100,101,114]⟩:ByteArray)),.el default ze ([(⟨#[116,111]⟩:ByteArray),(r.firms.getD b.payee.toNat default).name,(if yO .i64 b.flags 4=0 then (⟨#[111,114,32,111,114,100,101,114]⟩:ByteArray)else (⟨#[110,111,116,32,116,111,32,111,114,100,101,114]⟩:ByteArray))]:List ByteArray),.callm [2,8] (qg rfl x3 ([(⟨#[116,111]⟩:ByteArray),(r.firms.getD b.payee.toNat default).name,(if yO .i64 b.flags 4=0 then (⟨#[111,114,32,111,114,100,101,114]⟩:ByteArray)else (⟨#[110,111,116,32,116,111,32,111,114,100,101,114]⟩:ByteArray))]) e4 n4 j4 (by omega))] [2,3,4,6,7,8] ?_ (hp:=by simp only[zC,bb,toN];repeat' first|exact trivial|exact zI.refl _|exact zH.refl _|exact rfl|omega|apply And.intro|intro _)
  refine gR [.call (yB b.sum ⟨by omega,by omega⟩)] [2,3,4,6,7,8,10] ?_ (hp:=by (have z1:(⟨#[32]⟩:ByteArray).size=1:=rfl);simp only[zC,bb,toN,ByteArray.size_append];repeat' first|exact trivial|exact zI.refl _|exact zH.refl _|exact rfl|omega|apply And.intro|intro _)
  refine gR [.el default ze ([Za b.sum++(⟨#[32]⟩:ByteArray)++(r.currencies.getD b.cur.toNat default)]:List ByteArray),.callm [2,10] (qg (decide_eq_true h2) x4 ([Za b.sum++(⟨#[32]⟩:ByteArray)++(r.currencies.getD b.cur.toNat default)]) e5 n5 j5 (by omega))] [2,3,4,6,7,8,10] ?_ (hp:=by simp only[zC,bb,toN];repeat' first|exact trivial|exact zI.refl _|exact zH.refl _|exact rfl|omega|apply And.intro|intro _)
  refine gR [.call (yB b.rate ⟨by omega,by omega⟩),.el default ze ([Za b.sum++(⟨#[32]⟩:ByteArray)++(r.currencies.getD b.cur.toNat default),(⟨#[119,105,116,104,32,105,110,116,101,114,101,115,116,32,97,116]⟩:ByteArray),Za b.rate,(⟨#[112,101,114,32,109,105,108,108,101]⟩:ByteArray)]:List ByteArray),.callm [2,12] (Wu (decide_eq_false (show ¬(0<b.rate)by omega)) x5 ([Za b.sum++(⟨#[32]⟩:ByteArray)++(r.currencies.getD b.cur.toNat default),(⟨#[119,105,116,104,32,105,110,116,101,114,101,115,116,32,97,116]⟩:ByteArray),Za b.rate,(⟨#[112,101,114,32,109,105,108,108,101]⟩:ByteArray)]))] [2,3,4,6,7,8] ?_ (hp:=by simp only[zC,bb,toN];repeat' first|exact trivial|exact zI.refl _|exact zH.refl _|exact rfl|omega|apply And.intro|intro _)
  refine gR [.el default ze ([(⟨#[116,111,32,98,101,32,112,97,105,100,32,98,121]⟩:ByteArray),(r.firms.getD b.drawee.toNat default).name,(⟨#[105,110]⟩:ByteArray),(r.cities.getD b.pay.toNat default).name]:List ByteArray),.callm [2,12] (qg rfl x5 ([(⟨#[116,111,32,98,101,32,112,97,105,100,32,98,121]⟩:ByteArray),(r.firms.getD b.drawee.toNat default).name,(⟨#[105,110]⟩:ByteArray),(r.cities.getD b.pay.toNat default).name]) e6 n6 j6 (by omega))] [2,3,4,6,7,8] ?_ (hp:=by simp only[zC,bb,toN];repeat' first|exact trivial|exact zI.refl _|exact zH.refl _|exact rfl|omega|apply And.intro|intro _)
  refine gR [.call (zUs b.parts 0 (by omega) (by omega)),.el default ze ([(⟨#[117,110,108,101,115,115,32,112,97,114,116]⟩:ByteArray),zUt b.parts 0,(⟨#[119,97,115,32,112,97,105,100]⟩:ByteArray)]:List ByteArray),.callm [2,15] (Wu (decide_eq_false (show ¬(1<b.parts)by omega)) x6 ([(⟨#[117,110,108,101,115,115,32,112,97,114,116]⟩:ByteArray),zUt b.parts 0,(⟨#[119,97,115,32,112,97,105,100]⟩:ByteArray)]))] [3,4,6,7,8] ?_ (hp:=by simp only[zC,bb,toN];repeat' first|exact trivial|exact zI.refl _|exact zH.refl _|exact rfl|omega|apply And.intro|intro _)
  refine gE [3,4,6,7,8,129] ?_
  refine zT (fun c=>absurd h4 c) (fun c=> ?_)
  refine gR [.el default ze ([(⟨#[119,105,116,104,111,117,116,32,112,114,111,116,101,115,116]⟩:ByteArray)]:List ByteArray),.callm [2,15] (Wu (show (!decide (yO .i64 b.flags 2=0))=false by rw[h5];rfl) x6 ([(⟨#[119,105,116,104,111,117,116,32,112,114,111,116,101,115,116]⟩:ByteArray)]))] [3,4,6,7,8] ?_ (hp:=by simp only[zC,bb,toN];repeat' first|exact trivial|exact zI.refl _|exact zH.refl _|exact rfl|omega|apply And.intro|intro _)
  refine gR [.el default ze ([(⟨#[115,105,103,110,101,100]⟩:ByteArray),(r.firms.getD b.drawer.toNat default).name]:List ByteArray),.callm [2,15] (qg rfl x6 ([(⟨#[115,105,103,110,101,100]⟩:ByteArray),(r.firms.getD b.drawer.toNat default).name]) e7 n7 j7 (by omega))] [6,7] ?_ (hp:=by simp only[zC,bb,toN];repeat' first|exact trivial|exact zI.refl _|exact zH.refl _|exact rfl|omega|apply And.intro|intro _)
  refine gR [.callm [2,19] (zXv x7 hne)] [6] ?_
  refine gT ?_
  rfl
def wJ:Fil:=⟨zM.bill,zM.signs,zM.alters,zM.acts++ [⟨6,2,3,0,2,600,135,0,0⟩],zM.facts⟩
theorem zPk:∀_:Dep,zAo ZG zM=true:=fun D=>by cases D with|mk d=>cases d<;>kernel_rfl
theorem zKc:∀_:Dep,zAo ZG wJ=true:=fun D=>by cases D with|mk d=>cases d<;>kernel_rfl
theorem Hl:∀_:Dep,(jg wJ 0 139).holder=3:=fun D=>by cases D with|mk d=>cases d<;>kernel_rfl
theorem zPl:∀_:Dep,UH ZG zM.bill=0:=fun D=>by cases D with|mk d=>cases d<;>kernel_rfl
theorem ZAp:∀_:Dep,(YO ZG 0 zM 134).length=3:=fun D=>by cases D with|mk d=>cases d<;>kernel_rfl
theorem ZAo:∀_:Dep,(YO ZG 0 wJ 139).length=5:=fun D=>by cases D with|mk d=>cases d<;>kernel_rfl
theorem zVn:∀_:Dep,(decide (((YO ZG 0 zM 134).getD 1 default).creditor=3)&&decide (((YO ZG 0 zM 134).getD 1 default).sum=1000)&&decide (((YO ZG 0 wJ 139).getD 1 default).sum=400)&&decide (((YO ZG 0 wJ 139).getD 4 default).creditor=2)&&decide (((YO ZG 0 wJ 139).getD 4 default).sum=600))=true:=fun D=>by cases D with|mk d=>cases d<;>kernel_rfl
theorem Hk:MemX ZG where
 curS:=fun s hs=>by (rw[List.mem_singleton.1 hs];exact Nat.le_of_ble_eq_true (by kernel_rfl))
 city:=fun c hc=>by (rw[List.mem_singleton.1 hc];exact ⟨Nat.le_of_ble_eq_true (by kernel_rfl),Nat.le_of_ble_eq_true (by kernel_rfl),Nat.le_of_ble_eq_true (by kernel_rfl),Nat.le_of_ble_eq_true (by kernel_rfl)⟩)
 firm:=fun c hc=>by
  have h:(ZG.firms.all fun c=>Nat.ble c.name.size 9223372036854775807)=true:=by kernel_rfl
  exact Nat.le_of_ble_eq_true (List.all_eq_true.1 h c hc)
 order:=fun c hc=>by (rw[List.mem_singleton.1 hc];exact Nat.le_of_ble_eq_true (by kernel_rfl))
 rate:=fun c hc=>by cases hc
 lo:=Nat.le_of_ble_eq_true (by kernel_rfl)
 tm:=fun o ho x hx=>by
  rw[List.mem_singleton.1 ho]at hx
  have h:∀(q:Int) (d:Nat),QN d (JE q).term:=fun q d=>by
   have e:(JE q).term.args= []:=rfl
   cases d with
   |zero=>exact e
   |succ n=>exact ⟨by rw[e];simp,by rw[e];intro a h;cases h⟩
  simp only[ZG,List.mem_cons,List.not_mem_nil,or_false]at hx
  rcases hx with rfl|rfl|rfl|rfl<;>exact h _ _
theorem zDu (hr:FitR ZG):Plain ZG zM.bill where
 fit:=hr
 ok:=zPl inferInstance
 payee:=by decide
 rate:=rfl
 parts:=rfl
 need:=rfl
 flags:=rfl
 pay0:=by decide
 dre:=by decide
 drr:=by decide
 cit:=by decide
 pay:=by decide
 cur:=by decide
 sum:=by decide
 day:=⟨(by unfold yY;exact of_decide_eq_true (by kernel_rfl)),(by unfold yY;exact of_decide_eq_true (by kernel_rfl)),(by unfold yY;exact of_decide_eq_true (by kernel_rfl))⟩
 ten:=⟨(by unfold yY;exact of_decide_eq_true (by kernel_rfl)),(by unfold yY;exact of_decide_eq_true (by kernel_rfl)),(by unfold yY;exact of_decide_eq_true (by kernel_rfl)),(by unfold yY;exact of_decide_eq_true (by kernel_rfl))⟩
 money:=⟨Nat.le_of_ble_eq_true (by kernel_rfl),Nat.le_of_ble_eq_true (by kernel_rfl)⟩
 w1:=⟨Nat.le_of_ble_eq_true (by kernel_rfl),Nat.le_of_ble_eq_true (by kernel_rfl),Nat.le_of_ble_eq_true (by kernel_rfl)⟩
 w2:=⟨Nat.le_of_ble_eq_true (by kernel_rfl),Nat.le_of_ble_eq_true (by kernel_rfl),Nat.le_of_ble_eq_true (by kernel_rfl)⟩
 w3:=⟨Nat.le_of_ble_eq_true (by kernel_rfl),Nat.le_of_ble_eq_true (by kernel_rfl),Nat.le_of_ble_eq_true (by kernel_rfl)⟩
 w4:=⟨Nat.le_of_ble_eq_true (by kernel_rfl),Nat.le_of_ble_eq_true (by kernel_rfl),Nat.le_of_ble_eq_true (by kernel_rfl)⟩
 w5:=⟨Nat.le_of_ble_eq_true (by kernel_rfl),Nat.le_of_ble_eq_true (by kernel_rfl),Nat.le_of_ble_eq_true (by kernel_rfl)⟩
 w6:=⟨Nat.le_of_ble_eq_true (by kernel_rfl),Nat.le_of_ble_eq_true (by kernel_rfl),Nat.le_of_ble_eq_true (by kernel_rfl)⟩
 w7:=⟨Nat.le_of_ble_eq_true (by kernel_rfl),Nat.le_of_ble_eq_true (by kernel_rfl),Nat.le_of_ble_eq_true (by kernel_rfl)⟩
theorem zVo:GC Tryz.prog 6 [] (bG true):=by
 have hg1:=WP Hk (zPk inferInstance)
 have hg2:=WP Hk (zKc inferInstance)
 have hr:=hg1.rr.right.fit
 obtain ⟨l,hl⟩:∃l,l=YO ZG 0 zM 134:=⟨_,rfl⟩
 obtain ⟨m,hm⟩:∃l,l=YO ZG 0 wJ 139:=⟨_,rfl⟩
 have c1:=Xv ZG 0 zM 134 hg1.rr hg1.fi (hg1.ck.backs hr) (hg1.ck.rises hr) (hg1.ck.whos hr) (vu hg1.ck.bill).pay
 have c2:=Xv ZG 0 wJ 139 hg2.rr hg2.fi (hg2.ck.backs hr) (hg2.ck.rises hr) (hg2.ck.whos hr) (vu hg2.ck.bill).pay
 rw[<-hl]at c1
 rw[<-hm]at c2
 have n1:l.length=3:=(congrArg List.length hl).trans (ZAp inferInstance)
 have n2:m.length=5:=(congrArg List.length hm).trans (ZAo inferInstance)
 have v:=zVn inferInstance
 rw[<-hl,<-hm]at v
 simp only[Bool.and_eq_true,decide_eq_true_eq]at v
 obtain ⟨⟨⟨⟨v1,v2⟩,v3⟩,v4⟩,v5⟩:=v
 obtain ⟨s,s0,c3⟩:=zTh ZG zM.bill (zDu hr)
 obtain ⟨ch,hc⟩:∃ch,ch=jg wJ 0 139:=⟨_,rfl⟩
 have c4:=zBe wJ 0 139 hg2.fi
 rw[<-hc]at c4
 have v6:ch.holder=3:=(congrArg Chn.holder hc).trans (Hl inferInstance)
 refine zA Tryz.func6 ?_
 refine gE [0] ?_
 refine gR [.callm [] zPm] [0,1,2] ?_
 refine gR [.call c1] [0,1,2,3] ?_
 refine gR [.el default acC ([⟨6,2,3,0,2,600,135,0,0⟩]:List Act),.el default acC (zM.acts++([⟨6,2,3,0,2,600,135,0,0⟩]:List Act))] [0,1,2,3] ?_ (hp:=(by simp only[zC,Int.toNat_natCast];repeat' first|exact trivial|exact zI.refl _|exact zH.refl _|exact rfl|omega|apply And.intro|intro _|(simp[zP];done)|(simp only[List.length_append,List.length_cons,List.length_nil];omega)|(simp[*];done)|(simp[zM];done)))
 refine gR [.call c2] [0,1,2,3,4] ?_
 refine gE [0,1,2,3,4,28] ?_
 refine zE (fun c=> ?_) (fun c=> ?_)
 ·exfalso
  simp[n1,n2]at c
 ·refine QA 4 ?_
  refine gR [.call c3,.call c4] [0] ?_
  refine Zf env ?_
  rw[show Int.toNat 1=1 from rfl,show Int.toNat 4=4 from rfl,decide_eq_true v1,decide_eq_true v2,decide_eq_true v3,decide_eq_true v4,decide_eq_true v5,decide_eq_true v6,decide_eq_false (fun e=>s0 (by rw[e];rfl))]
  exact Ent.refl _
open Go.IntKind (i64)
def zGs:Bool:=true
def Ya (r:Rlm) (forum:Int) (f:Fil) (sign:Int) (day:Int) (known:Int) (facts:Int) (k1:Nat) (b2_4:List Fct) (k2:Nat) (b2:Fil):Bool:=if (k2:Int)<5 then if (yO .u8 (wU .u8 known (k2:Int)) 1)=1 then Ya r forum f sign day known facts k1 b2_4 (k2+1) (jN b2 (⟨(k2:Int),((i64.wrap sign).tmod (f.signs.length:Int)),i64.wrap (yO .u8 (wU .u8 facts (k2:Int)) 1)⟩:Fct))else Ya r forum f sign day known facts k1 b2_4 (k2+1) b2 else (bif zGs then (vN (Vd f (YO r forum f day) ((i64.wrap sign).tmod (f.signs.length:Int))) (Vd f (YO r forum b2 day) ((i64.wrap sign).tmod (f.signs.length:Int))))else false)
termination_by 5-k2
def QB (r:Rlm) (forum:Int) (f:Fil) (sign:Int) (day:Int) (known:Int) (facts:Int) (k1:Nat) (b2_4:List Fct):Bool:=if k1<f.facts.length then if ((f.facts.getD k1 default).at_)=((i64.wrap sign).tmod (f.signs.length:Int))then QB r forum f sign day known facts (k1+1) b2_4 else QB r forum f sign day known facts (k1+1) (b2_4++ [(f.facts.getD k1 default)])else Ya r forum f sign day known facts k1 b2_4 0 (⟨f.bill,f.signs,f.alters,f.acts,b2_4⟩:Fil)
termination_by f.facts.length-k1
def Uv (r:Rlm) (forum:Int) (f:Fil) (sign:Int) (day:Int) (known:Int) (facts:Int):Bool:=if (bif (!(zAo r f))then true else decide ((f.signs.length:Int)=0))=true then zGs else if ((f.signs.getD (((i64.wrap sign).tmod (f.signs.length:Int)).toNat) default).kind)=2 then zGs else QB r forum f sign day known facts 0 []
theorem zWp (r:Rlm) (forum:Int) (f:Fil) (sign:Int) (day:Int) (known:Int) (facts:Int) (hm:MemX r) (hs:0<=sign/\sign<=255):GC Tryz.prog 3 [rlG r,iG forum,fiG f,cG sign,iG day,cG known,cG facts] (bG (Uv r forum f sign day known facts)):=by
 have hw0:i64.wrap sign=sign:=Ze (by unfold inR;omega)
 refine zA Tryz.func3 ?_
 refine gE [1,3,4,5,6,7,9,14] ?_
 refine gR [.call (zVo)] [1,3,4,5,6,7,9,14,15] ?_
 refine gR [.call (zWu r f (by assumption))] [1,3,4,5,6,7,9,14,15,32] ?_
 refine zE ?_ ?_<;>intro c1<;>try simp only[bb,toN]at c1
 ·refine gE [1,3,4,5,6,7,9,14,15] ?_
  refine gT ?_
  rw[Uv,if_pos (by (try simp only[bb,toN]);exact c1)];rfl
 ·have hq:zAo r f=true/\¬(f.signs.length:Int)=0:=by first|exact c1|(have c1x:=c1;rw[Bool.not_eq_true]at c1x;simp only[bb]at c1x;exact c1x)
  have hgd:=WP hm hq.1
  have hR:=hgd.rr
  have hF:=hgd.fi
  have hr:=hR.right.fit
  have hB:=hgd.ck.backs hr
  have hd:=hgd.ck.rises hr
  have hw:=hgd.ck.whos hr
  have hp:=(vu hgd.ck.bill).pay
  have g1:=hF.signs
  have g2:=hF.alters
  have g3:=hF.acts
  have g4:=hF.facts
  have g5:=hgd.ck.lf
  refine zF env true [] [1,4,5,6,7,9,14,15,16] ?_
  have hk:=jO (a:=i64.wrap sign) (b:=(f.signs.length:Int)) (by omega) (by omega)
  refine gE [1,4,5,6,7,9,14,15,16,46] ?_
  refine zB ?_ ?_<;>intro c2<;>try simp only[toN]at c2
  ·refine gE [1,4,5,6,7,9,14,15,16] ?_
   refine gT ?_
   rw[Uv,iN (by (try simp only[bb,toN]);exact c1),if_pos c2];rfl
  ·refine gE [1,4,5,6,7,9,14,15,16,17] ?_
   refine gE [1,4,5,6,7,9,14,15,16,17] ?_
   refine gE [1,4,5,6,7,9,14,15,16,17,18] ?_
   refine qb 2 18 47 3 (default:Fct) fcC ?_
   refine zG (α:=Nat×List Fct) (fun x=>x.1<=f.facts.length/\QB r forum f sign day known facts 0 []=QB r forum f sign day known facts x.1 x.2/\x.2.length<=x.1/\(fun k l=>l=(f.facts.take k).filter (fun x=> !decide (x.at_=((i64.wrap sign).tmod (f.signs.length:Int))))) x.1 x.2) (fun x=>[(18,iG x.1)]) (fun x=>[(3,some (.row 47 3 default fcC x.2 0)),(2,some (.box [iG f.bill.drawer,iG f.bill.drawee,iG f.bill.payee,iG f.bill.sum,iG f.bill.cur,iG f.bill.ten.kind,iG f.bill.ten.n,iG f.bill.ten.unit,iG f.bill.day,iG f.bill.city,iG f.bill.pay,iG f.bill.need,iG f.bill.rate,iG f.bill.flags,iG f.bill.parts,.d (.row default sgC f.signs),.d (.row default alC f.alters),.d (.row default acC f.acts),.sl 3 3 0 x.2.length]))]) (fun x=>f.facts.length-x.1) (0,[]) ⟨by (try simp only[]);omega,rfl,by first|omega|(simp;done)|(simp only[List.length_append,List.length_cons,List.length_nil,List.length_set,List.length_replicate];omega),rfl⟩ ?_ (hp:=by simp[zC]<;>rfl)
   rintro ⟨k1,b2_4⟩ ⟨hi1,he,hl_b2_4,hv1⟩
   dsimp only at*
   refine gE [1,4,5,6,7,9,14,15,16,17,18,54] ?_
   refine zB ?_ ?_<;>intro c3<;>try simp only[toN]at c3
   ·refine gE [1,4,5,6,7,9,14,15,16,17,18,64] ?_
    refine zT ?_ ?_<;>intro c4<;>try simp only[toN]at c4
    ·refine gU [.el default fcC ([(f.facts.getD k1 default)]:List Fct),.el default fcC (b2_4++ [(f.facts.getD k1 default)])] [1,4,5,6,7,9,14,15,16,17,18] ?_
     refine gE [1,4,5,6,7,9,14,15,16,17,18] ?_
     refine zD ((k1+1,b2_4++ [(f.facts.getD k1 default)])) ?_ (hp:=by simp[zC]<;>rfl) (hm:=by dsimp only;omega)
     refine ⟨by (try simp only[]);omega,he.trans ?_,by first|omega|(simp;done)|(simp only[List.length_append,List.length_cons,List.length_nil,List.length_set,List.length_replicate];omega),by first|exact (jB (by omega) hv1).1 c4|exact (jB (by omega) hv1).2 c4⟩
     rw[QB,if_pos (by omega),if_neg c4]
     try rfl
    ·refine gE [1,4,5,6,7,9,14,15,16,17,18] ?_
     refine zD ((k1+1,b2_4)) ?_ (hp:=by simp[zC]<;>rfl) (hm:=by dsimp only;omega)
     refine ⟨by (try simp only[]);omega,he.trans ?_,by first|omega|(simp;done)|(simp only[List.length_append,List.length_cons,List.length_nil,List.length_set,List.length_replicate];omega),by first|exact (jB (by omega) hv1).1 c4|exact (jB (by omega) hv1).2 c4⟩
     rw[QB,if_pos (by omega),if_pos c4]
     try rfl
   ·refine QA 3 ?_
    refine gE [1,4,5,6,7,9,14,15,16,17,19] ?_
    refine zG (α:=Nat×Fil) (fun x=>x.1<=5/\Ya r forum f sign day known facts k1 b2_4 0 (⟨f.bill,f.signs,f.alters,f.acts,b2_4⟩:Fil)=Ya r forum f sign day known facts k1 b2_4 x.1 x.2/\(fun k b=>FgI f ((i64.wrap sign).tmod (f.signs.length:Int)) k b) x.1 x.2) (fun x=>[(19,iG x.1)]) (fun x=>[(2,some (.box [iG x.2.bill.drawer,iG x.2.bill.drawee,iG x.2.bill.payee,iG x.2.bill.sum,iG x.2.bill.cur,iG x.2.bill.ten.kind,iG x.2.bill.ten.n,iG x.2.bill.ten.unit,iG x.2.bill.day,iG x.2.bill.city,iG x.2.bill.pay,iG x.2.bill.need,iG x.2.bill.rate,iG x.2.bill.flags,iG x.2.bill.parts,.d (.row default sgC x.2.signs),.d (.row default alC x.2.alters),.d (.row default acC x.2.acts),.d (.row default fcC x.2.facts)]))]) (fun x=>5-x.1) (0,(⟨f.bill,f.signs,f.alters,f.acts,b2_4⟩:Fil)) ⟨by (try simp only[]);omega,rfl,FgI.start2 hv1 (by omega) (by omega)⟩ ?_ (hp:=by simp[zC]<;>rfl)
    rintro ⟨k2,b2⟩ ⟨hi2,he2,hv2⟩
    dsimp only at*
    refine gE [1,4,5,6,7,9,14,15,16,17,19,76] ?_
    refine zB ?_ ?_<;>intro c5<;>try simp only[toN]at c5
    ·refine gE [1,4,5,6,7,9,14,15,16,17,19,83] ?_
     refine zB ?_ ?_<;>intro c6<;>try simp only[toN]at c6
     ·refine zF env true [.call (zIa b2 (⟨(k2:Int),((i64.wrap sign).tmod (f.signs.length:Int)),i64.wrap (yO .u8 (wU .u8 facts (k2:Int)) 1)⟩:Fct) (by first|exact hv2.fit (by omega) hF|assumption))] [1,4,5,6,7,9,14,15,16,17,19] ?_
      refine gE [1,4,5,6,7,9,14,15,16,17,19] ?_
      refine zD ((k2+1,(jN b2 (⟨(k2:Int),((i64.wrap sign).tmod (f.signs.length:Int)),i64.wrap (yO .u8 (wU .u8 facts (k2:Int)) 1)⟩:Fct)))) ?_ (hp:=by simp[zC]<;>rfl) (hm:=by dsimp only;omega)
      refine ⟨by (try simp only[]);omega,he2.trans ?_,by first|exact FgI.with_ hv2 _ _|exact FgI.less hv2 (by omega)⟩
      rw[Ya,if_pos c5,if_pos c6]
      try rfl
     ·refine gE [1,4,5,6,7,9,14,15,16,17,19] ?_
      refine zD ((k2+1,b2)) ?_ (hp:=by simp[zC]<;>rfl) (hm:=by dsimp only;omega)
      refine ⟨by (try simp only[]);omega,he2.trans ?_,by first|exact FgI.with_ hv2 _ _|exact FgI.less hv2 (by omega)⟩
      rw[Ya,if_pos c5,if_neg c6]
      try rfl
    ·have hv2f:=hv2.fit (by omega) hF
     obtain ⟨hB2,hd2,hw2,hp2⟩:=hv2.more hB hd hw hp
     have n1:=zYn r forum f day hgd.s20 hgd.a30
     have n2:=zYn r forum b2 day (by rw[hv2.2.1];exact hgd.s20) (by rw[hv2.2.2.2.1];exact hgd.a30)
     have n3:=oth_n f (YO r forum f day) ((i64.wrap sign).tmod (f.signs.length:Int))
     refine gR [.call (Xv r forum f day hR (by assumption) (by assumption) (by assumption) (by assumption) (by assumption))] [1,4,7,9,14,15,16,17,20] ?_
     refine gR [.call (Xv r forum b2 day hR (by assumption) (by assumption) (by assumption) (by assumption) (by assumption))] [9,14,15,16,20,21] ?_
     refine gR [.call (zGl f (YO r forum f day) ((i64.wrap sign).tmod (f.signs.length:Int)) (by assumption) (by assumption) (by omega)),.call (zGl f (YO r forum b2 day) ((i64.wrap sign).tmod (f.signs.length:Int)) (by assumption) (by assumption) (by omega)),.call (zNh (Vd f (YO r forum f day) ((i64.wrap sign).tmod (f.signs.length:Int))) (Vd f (YO r forum b2 day) ((i64.wrap sign).tmod (f.signs.length:Int))) (by first|assumption|omega))] [14] ?_
     refine gT ?_
     rw[Uv,iN (by (try simp only[bb,toN]);exact c1),if_neg c2,he,QB,if_neg (by omega),he2,Ya,if_neg c5];rfl
theorem zWq {r:Rlm} (hm:MemX r) (forum:Int) (f:Fil) {sign:Int} (hs:0<=sign/\sign<=255) (day known facts:Int):Uv r forum f sign day known facts=true:=by
 have hw0:IntKind.i64.wrap sign=sign:=Ze (by unfold inR;omega)
 unfold Uv
 split
 ·rfl
 ·rename_i c1
  rw[Bool.not_eq_true]at c1
  simp only[bb]at c1
  have hgd:=WP hm c1.1
  have hF:=hgd.fi
  have hr:=hgd.rr.right.fit
  have hB:=hgd.ck.backs hr
  have hd:=hgd.ck.rises hr
  have g5:=hgd.ck.lf
  have hk:=jO (a:=IntKind.i64.wrap sign) (b:=(f.signs.length:Int)) (by omega) (by omega)
  split
  ·rfl
  ·rename_i c2
   have h2:∀n k k1 l b,5-k=n->k<=5->FgI f ((IntKind.i64.wrap sign).tmod (f.signs.length:Int)) k b->Ya r forum f sign day known facts k1 l k b=true:=by
    intro n
    induction n with
    |zero=>
     intro k k1 l b hn hk5 hi
     unfold Ya
     rw[if_neg (by omega)]
     show (bif zGs then _ else false)=true
     have hsim:=ZBr hi hF hd hk.1 c2 day
     rw[zAi hsim (zYo hi day).2 hB r forum];rfl
    |succ n ih=>
     intro k k1 l b hn hk5 hi
     unfold Ya
     rw[if_pos (by omega)]
     split
     ·exact ih _ _ _ _ (by omega) (by omega) (hi.with_ _ _)
     ·exact ih _ _ _ _ (by omega) (by omega) (hi.less (by omega))
   have h1:∀n k l,f.facts.length-k=n->k<=f.facts.length->l=(f.facts.take k).filter (fun x=> !decide (x.at_=(IntKind.i64.wrap sign).tmod (f.signs.length:Int)))->QB r forum f sign day known facts k l=true:=by
    intro n
    induction n with
    |zero=>
     intro k l hn hk5 hi
     unfold QB
     rw[if_neg (by omega)]
     exact h2 _ 0 _ _ _ rfl (by omega) (FgI.start2 hi (by omega) (by omega))
    |succ n ih=>
     intro k l hn hk5 hi
     have hS:k<f.facts.length:=by omega
     unfold QB
     rw[if_pos hS]
     split
     ·rename_i c4;exact ih _ _ (by omega) (by omega) ((jB hS hi).1 c4)
     ·rename_i c4;exact ih _ _ (by omega) (by omega) ((jB hS hi).2 c4)
   exact h1 _ 0 _ rfl (Nat.zero_le _) rfl
end Go.Gh
