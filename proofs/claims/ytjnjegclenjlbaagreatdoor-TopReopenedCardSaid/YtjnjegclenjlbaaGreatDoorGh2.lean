/- A logic of calls without memory (2 of 3). -/
import Derived.Test.YtjnjegclenjlbaaGreatDoorGh1
import Derived.Below
import Derived.Laws.OwnMore
import Derived.Deep.AppendLies
import Derived.Maps.AppendAt
import Derived.OwnWalk
import Derived.Deep.AppendSrc
import Derived.RangeFuncNested
import Derived.MapKept
import Derived.Carry
import Derived.Laws.StructEq
import Derived.Laws.BytesArg
import Derived.Lib.ConvBytes
import Derived.Laws.AppendOwn
import Derived.Laws.MakeOwn
namespace Go.Gh
open Go Go.RowKit
set_option linter.unusedVariables false
theorem block_of_add (a:Addr) (n:Nat):(a.add n).block=a.block:=by unfold Addr.add;split<;>rfl
theorem add_of_add (a:Addr) (i j:Nat):(a.add i).add j=a.add (i+j):=by
 unfold Addr.add
 by_cases hi:i=0<;>by_cases hj:j=0<;>simp[hi,hj,Nat.add_assoc]
def Reads (w:World) (B size:Nat) (A:Option Addr) (n:Nat) (xs:List Value):Prop:=
 xs.length=n*size∧(0<n→∃ad,A=some ad∧ad.block<B∧∀j u,xs[j]? =some u→w.cell? (ad.add j)=some u)
section
variable {w w':World} {B B' size n:Nat} {A:Option Addr} {xs:List Value}
theorem Reads.none_:Reads w B size A 0 []:=⟨by simp,fun h=>absurd h (by omega)⟩
theorem Reads.at_ {k:Nat} (h:Reads w B 1 A n xs) (hk:k<n):∃ad u,A=some ad∧ad.block<B∧xs[k]? =some u∧w.cell? (ad.add k)=some u:=by
 obtain ⟨ad,e,hb,hc⟩:=h.2 (by omega)
 have hl:k<xs.length:=by have:=h.1;omega
 exact ⟨ad,xs[k],e,hb,List.getElem?_eq_getElem hl,hc k _ (List.getElem?_eq_getElem hl)⟩
theorem Reads.keep (h:Reads w B size A n xs) (hk:∀p:Addr,p.block<B→w'.cell? p=w.cell? p):Reads w' B size A n xs:=
 ⟨h.1,fun hn=>by
   obtain ⟨ad,e,hb,hc⟩:=h.2 hn
   exact ⟨ad,e,hb,fun j u hu=>(hk _ (by rw[block_of_add];exact hb)).trans (hc j u hu)⟩⟩
theorem Reads.more (h:Reads w B size A n xs) (hB:B≤B'):Reads w B' size A n xs:=
 ⟨h.1,fun hn=>by
   obtain ⟨ad,e,hb,hc⟩:=h.2 hn
   exact ⟨ad,e,by omega,hc⟩⟩
theorem Reads.below (h:Reads w B size A n xs) (hb:Below B w w'):Reads w' B size A n xs:=h.keep fun _ hp=>hb.cell hp
theorem Reads.drew (h:Reads w B size A n xs):Reads w.drew B size A n xs:=h
theorem Reads.drewN (h:Reads w B size A n xs) (k:Nat):Reads (w.drewN k) B size A n xs:=h
theorem Reads.alloc (h:Reads w B size A n xs) (hB:B≤w.heap.size) (o:Obj):Reads (w.alloc o) B size A n xs:=h.keep fun p hp=>World.cell?_alloc_lt w o p (by omega)
theorem Reads.setCell (h:Reads w B size A n xs) {p:Addr} (hB:B≤p.block) (u:Value):Reads (w.setCell p u) B size A n xs:=
 h.keep fun q hq=>World.cell?_setCell_other w p q u (fun e=>by subst e;omega)
theorem Reads.grown (h:Reads w B size A n xs) {row:Option Nat} (hg:w.grownBy w' row) (hB:B≤w.heap.size) (hr:∀g,row=some g→B≤g):Reads w' B size A n xs:=
 h.keep fun p hp=>World.cell?_of_block (hg.block p.block (by omega) (fun e=>by have:=hr _ e.symm;omega))
theorem Reads.cut (h:Reads w B size A n xs) {k cap:Nat} (hk:k≤n) (hc:n≤cap):
 Reads w B size (if cap=k then A else A.map (·.add (k*size))) (n-k) (xs.drop (k*size)):=by
 refine ⟨by rw[List.length_drop,h.1,Nat.sub_mul],fun hn=> ?_⟩
 obtain ⟨ad,rfl,hb,hcell⟩:=h.2 (by omega)
 rw[if_neg (by omega)]
 refine ⟨ad.add (k*size),rfl,by rw[block_of_add];exact hb,fun j u hu=> ?_⟩
 rw[add_of_add]
 exact hcell _ u (by rw[←hu,List.getElem?_drop])
end
section
variable {P:Program} (w:World)
end
end Go.Gh
namespace Go.Gh
open Go Go.RowKit
set_option linter.unusedVariables false
def rowL {α:Type} (cs:α→List D) (xs:List α):List (List D):=xs.map cs
structure FR (F:Fz) (w:World) (es:Nat) (L:List (List D)) (vs:List Value):Prop where
 len:vs.length=L.length*es
 one:∀u,u∈vs→u.oneCell'=true
 el:∀(i:Nat) e,L[i]? =some e→e.length=es
 val:∀(i:Nat) e (j:Nat) x u,L[i]? =some e→e[j]? =some x→vs[i*es+j]? =some u→DR F w x u
theorem FR.keep {F F':Fz} {w w':World} {es:Nat} {L:List (List D)} {vs:List Value} (h:FR F w es L vs) (k:Keep F w F' w'):FR F' w' es L vs:=
 ⟨h.len,h.one,h.el,fun i e j x u a b c=>(h.val i e j x u a b c).keep k⟩
theorem FR.append {F:Fz} {w:World} {es:Nat} {L L':List (List D)} {vs vs':List Value} (h:FR F w es L vs) (h':FR F w es L' vs'):FR F w es (L++L') (vs++vs'):=by
 refine ⟨by rw[List.length_append,List.length_append,h.len,h'.len,Nat.add_mul],fun u hu=>(List.mem_append.1 hu).elim (h.one u) (h'.one u),fun i e a=> ?_,fun i e j x u a b c=> ?_⟩
 ·rcases Nat.lt_or_ge i L.length with hi|hi
  ·rw[List.getElem?_append_left hi]at a;exact h.el i e a
  ·rw[List.getElem?_append_right hi]at a;exact h'.el _ e a
 ·rcases Nat.lt_or_ge i L.length with hi|hi
  ·rw[List.getElem?_append_left hi]at a
   have hj:j<es:=by rw[←h.el i e a];exact (List.getElem?_eq_some_iff.1 b).1
   rw[List.getElem?_append_left (by rw[h.len];exact blk_idx hi hj)]at c
   exact h.val i e j x u a b c
  ·rw[List.getElem?_append_right hi]at a
   have e1:i*es+j-vs.length=(i-L.length)*es+j:=by
    rw[h.len,Nat.sub_mul]
    have:=Nat.mul_le_mul_right es hi
    omega
   rw[List.getElem?_append_right (by rw[h.len];have:=Nat.mul_le_mul_right es hi;omega),e1]at c
   exact h'.val _ e j x u a b c
theorem FR.nil (F:Fz) (w:World) (es:Nat):FR F w es [] []:=⟨by simp,fun u h=>(by cases h),fun i e h=>(by simp at h),fun i e j x u h=>(by simp at h)⟩
theorem FR.take {F:Fz} {w:World} {es:Nat} {L:List (List D)} {vs:List Value} (h:FR F w es L vs) (n:Nat):FR F w es (L.take n) (vs.take (n*es)):=by
 refine ⟨?_,fun u hu=>h.one u (List.mem_of_mem_take hu),fun i e a=> ?_,fun i e j x u a b c=> ?_⟩
 ·rw[List.length_take,List.length_take,h.len]
  rcases Nat.le_total n L.length with hn|hn
  ·rw[Nat.min_eq_left hn,Nat.min_eq_left (Nat.mul_le_mul_right es hn)]
  ·rw[Nat.min_eq_right hn,Nat.min_eq_right (Nat.mul_le_mul_right es hn)]
 ·rw[List.getElem?_take]at a
  split at a
  ·exact h.el i e a
  ·cases a
 ·rw[List.getElem?_take]at a c
  split at a
  ·split at c
   ·exact h.val i e j x u a b c
   ·cases c
  ·cases a
def srcL (g:G) (H:Hp):Option (Prop×List (List D)×Nat×List Nat):=
 match g with
 | .d (.row df cs xs)=>some (True,rowL cs xs,xs.length,[])
 | .d (.sc (.slice none 0 0))=>some (True,[],0,[])
 | .sl b es i n=>
   match H b with
   |some (.row ty es' df cs xs fz)=>some (es=es'∧i=0∧n=xs.length,rowL cs xs,xs.length,[b])
   |_=>none
 |_=>none
theorem row_FR {F:Fz} {w:World} {es:Nat} {α:Type} {cs:α→List D} {xs:List α} {r q:Nat} {arr:Array Value} {ty:TypeId} (h2:arr.size=q*es) (h3:xs.length≤q) (h4:∀e,e∈xs→(cs e).length=es)
 (h5:∀u,u∈arr.toList→u.oneCell'=true) (h6:∀(i:Nat) e (j:Nat) x u,xs[i]? =some e→(cs e)[j]? =some x→arr[i*es+j]? =some u→DR F w x u):FR F w es (rowL cs xs) (arr.toList.take (xs.length*es)):=by
 refine ⟨?_,fun u hu=>h5 u (List.mem_of_mem_take hu),fun i e a=> ?_,fun i e j x u a b c=> ?_⟩
 ·rw[List.length_take,rowL,List.length_map]
  have:arr.toList.length=q*es:=by simpa using h2
  rw[this,Nat.min_eq_left (Nat.mul_le_mul_right es h3)]
 ·simp only[rowL,List.getElem?_map]at a
  cases hx:xs[i]? with
  |none=>rw[hx]at a;cases a
  |some y=>rw[hx]at a;simp only[Option.map_some]at a;injection a with a;subst a;exact h4 y (List.mem_of_getElem? hx)
 ·simp only[rowL,List.getElem?_map]at a
  cases hx:xs[i]? with
  |none=>rw[hx]at a;cases a
  |some y=>
   rw[hx]at a;simp only[Option.map_some]at a;injection a with a;subst a
   rw[List.getElem?_take]at c
   split at c
   ·exact h6 i y j x u hx b (by simpa using c)
   ·cases c
theorem srcL_sound [Laid] {g:G} {H:Hp} {pr:Prop} {L:List (List D)} {m:Nat} {fp:List Nat} (h:srcL g H=some (pr,L,m,fp)) (hp:pr) {ν:Nu} {F:Fz} {w:World} (hr:Rel ν F w H) {v:Value} (hv:VR ν F w g v) (es:Nat) (hz:0<es)
 (hes:∀(i:Nat) e,L[i]? =some e→e.length=es):∃(A:Option Addr) (c:Nat) (vs:List Value),v= .slice A m c∧FR F w es L vs∧Reads w w.heap.size es A m vs:=by
 unfold srcL at h
 split at h
 ·rename_i α df cs xs
  simp only[Option.some.injEq,Prod.mk.injEq]at h
  obtain ⟨rfl,rfl,rfl,rfl⟩:=h
  obtain ⟨A,c,b,off,es',val,rfl,hA,hc,hl,hw,hF,hdr⟩:=hv.row_inv
  by_cases hx0:xs= []
  ·subst hx0
   exact ⟨A,c,[],rfl,FR.nil _ _ _,⟨by simp,fun h=>by simp at h⟩⟩
  ·have hee:es'=es:=by
    obtain ⟨y,ys,e⟩:=List.exists_cons_of_ne_nil hx0
    have h1:=hl y (by rw[e];simp)
    have h2:=hes 0 (cs y) (by rw[e];simp[rowL])
    omega
   subst hee
   have hvs:∀k,k<xs.length*es'→∃i e j x,k=i*es'+j∧j<es'∧xs[i]? =some e∧(cs e)[j]? =some x:=fun k hk=>by
    have hpos:0<es':=by
     rcases Nat.eq_zero_or_pos es' with h|h
     ·rw[h,Nat.mul_zero]at hk;omega
     ·exact h
    have hi:k/es'<xs.length:=by rw[Nat.div_lt_iff_lt_mul hpos];exact hk
    have hj:k % es'<es':=Nat.mod_lt _ hpos
    have hcl:=hl xs[k/es'] (List.getElem_mem hi)
    refine ⟨k/es',xs[k/es'],k % es',(cs xs[k/es'])[k % es']'(by omega),?_,hj,List.getElem?_eq_getElem hi,List.getElem?_eq_getElem _⟩
    rw[Nat.mul_comm];exact (Nat.div_add_mod k es').symm
   have hgetv:∀k,k<xs.length*es'→((List.range (xs.length*es')).map fun k=>val (k/es') (k % es'))[k]? =some (val (k/es') (k % es')):=fun k hk=>by
    rw[List.getElem?_map,List.getElem?_range hk];rfl
   have hdm:∀i j,j<es'→(i*es'+j)/es'=i∧(i*es'+j) % es'=j:=fun i j hj=>by
    constructor
    ·rw[Nat.mul_comm,Nat.mul_add_div (by omega),Nat.div_eq_of_lt hj,Nat.add_zero]
    ·rw[Nat.mul_comm,Nat.mul_add_mod,Nat.mod_eq_of_lt hj]
   refine ⟨A,c,(List.range (xs.length*es')).map fun k=>val (k/es') (k % es'),rfl,⟨by simp[rowL],fun u hu=> ?_,hes,fun i e j x u a b cc=> ?_⟩,⟨by simp,fun hpos=> ?_⟩⟩
   ·obtain ⟨k,hk⟩:=List.getElem?_of_mem hu
    have hlt:k<xs.length*es':=by
     have:=(List.getElem?_eq_some_iff.1 hk).1;simpa using this
    obtain ⟨i,e,j,x,rfl,hj,h1,h2⟩:=hvs k hlt
    rw[hgetv _ hlt,(hdm i j hj).1,(hdm i j hj).2]at hk
    injection hk with hk;subst hk
    exact (hdr i e j x h1 h2).one
   ·simp only[rowL,List.getElem?_map]at a
    cases hx:xs[i]? with
    |none=>rw[hx]at a;cases a
    |some y=>
     rw[hx]at a;simp only[Option.map_some]at a;injection a with a;subst a
     have hj:j<es':=by rw[←hl y (List.mem_of_getElem? hx)];exact (List.getElem?_eq_some_iff.1 b).1
     have hi:=(List.getElem?_eq_some_iff.1 hx).1
     rw[hgetv _ (blk_idx hi hj),(hdm i j hj).1,(hdm i j hj).2]at cc
     injection cc with cc;subst cc
     exact hdr i y j x hx b
   ·refine ⟨_,hA hx0,?_,fun k u hu=> ?_⟩
    ·obtain ⟨y,ys,e⟩:=List.exists_cons_of_ne_nil hx0
     obtain ⟨i,e,j,x,h0,hj,h1,h2⟩:=hvs 0 (Nat.mul_pos (by rw[e];simp) hz)
     exact World.block_lt_of_cell? w ⟨b,off+i*es'+j,none⟩ (hw i e j x h1 h2)
    ·have hlt:k<xs.length*es':=by
      have:=(List.getElem?_eq_some_iff.1 hu).1;simpa using this
     obtain ⟨i,e,j,x,rfl,hj,h1,h2⟩:=hvs k hlt
     rw[hgetv _ hlt,(hdm i j hj).1,(hdm i j hj).2]at hu
     injection hu with hu;subst hu
     rw[addr_add,←Nat.add_assoc];exact hw i e j x h1 h2
 ·simp only[Option.some.injEq,Prod.mk.injEq]at h
  obtain ⟨rfl,rfl,rfl,rfl⟩:=h
  exact ⟨none,0,[],hv.sc_eq.1,FR.nil _ _ _,Reads.none_⟩
 ·rename_i b es1 i n
  split at h
  ·rename_i α ty es2 df cs xs fz hH
   simp only[Option.some.injEq,Prod.mk.injEq]at h
   obtain ⟨rfl,rfl,rfl,rfl⟩:=h
   obtain ⟨rfl,rfl,rfl⟩:=hp
   obtain ⟨A,c,rfl,k1,k2,k3⟩:=hv.sl_inv
   rcases hr.blk b _ hH with ⟨_,e2,_⟩|⟨r,q,arr,e1,e2,e2',e3,e4,e5,e6,e7,_⟩
   ·subst e2
    exact ⟨A,c,[],rfl,FR.nil _ _ _,⟨by simp,fun h=>by simp at h⟩⟩
   ·have hfr:=row_FR (F:=F) (w:=w) (r:=r) (ty:=ty) e3 e4 e5 e6 e7
    by_cases hx0:xs= []
    ·subst hx0
     exact ⟨A,c,[],rfl,FR.nil _ _ _,⟨by simp,fun h=>by simp at h⟩⟩
    ·have hee:es1=es:=by
      obtain ⟨y,ys,e⟩:=List.exists_cons_of_ne_nil hx0
      have h1:=e5 y (by rw[e];simp)
      have h2:=hes 0 (cs y) (by rw[e];simp[rowL])
      omega
     subst hee
     refine ⟨A,c,_,rfl,hfr,⟨by have:=hfr.len;simpa [rowL]using this,fun hpos=> ?_⟩⟩
     obtain ⟨r',q',f1,f2,_⟩:=k1 (List.length_pos_iff.2 hx0)
     rw[e1]at f1;injection f1 with f1;injection f1 with f1 f1';subst f1
     refine ⟨_,f2,(Array.getElem?_eq_some_iff.1 e2).1,fun k u hu=> ?_⟩
     rw[addr_add,Nat.zero_mul,Nat.zero_add,cell_at e2]
     rw[List.getElem?_take]at hu
     split at hu
     ·simpa using hu
     ·cases hu
  ·cases h
 ·cases h
end Go.Gh
namespace Go.Gh
open Go Go.RowKit
set_option linter.unusedVariables false
def delO:Option Nat→List (Nat×Option Blk)
 |none=>[]
 |some b=>[(b,none)]
theorem look_cons_same {b:Option Blk} {l:List (Nat×Option Blk)} {H:Hp} {i:Nat} :look ((i,b)::l) H i=b:=by simp only[look,Nat.beq_refl,cond_true]
theorem look_cons_other {b:Option Blk} {l:List (Nat×Option Blk)} {H:Hp} {i j:Nat} (h:j≠i):look ((i,b)::l) H j=look l H j:=by
 have:Nat.beq j i=false:=by
  cases e:Nat.beq j i with
  |false=>rfl
  |true=>exact absurd (Nat.eq_of_beq_eq_true e) h
 simp only[look,this,cond_false]
theorem look_del {ob:Option Nat} {H:Hp} {j:Nat} (h:(look (delO ob) H j).isSome=true):look (delO ob) H j=H j∧ob≠some j:=by
 cases ob with
 |none=>exact ⟨rfl,fun h=>by cases h⟩
 |some b=>
  by_cases e:j=b
  ·subst e;rw[delO,look_cons_same]at h;cases h
  ·exact ⟨by rw[delO,look_cons_other e];rfl,fun h=>e (by injection h with h;exact h.symm)⟩
theorem Rel.moved [Laid] {ν:Nu} {F F':Fz} {w w':World} {H:Hp} (hr:Rel ν F w H) {nx g k':Nat} (hν:ν nx=none) (hHn:H nx=none) {ob:Option Nat} {blk:Blk}
 (hg:g=w.heap.size∨∃b k,ob=some b∧(H b).isSome=true∧ν b=some (g,k)) (hoth:∀r',r'<w.heap.size→r'≠g→w'.heap[r']? =w.heap[r']?) (hsize:w.heap.size≤w'.heap.size)
 (e1:w'.os=w.os) (e2:w'.tape=w.tape) (e3:w'.output=w.output) (hk:Keep F w F' w') (hF':∀b o,F' b o→F b o∨b=g) (hcell:∀o,F' g o→(w'.cell? ⟨g,o,none⟩).isSome=true)
 (hblk:BR (addNu ν nx g k') F' w' (some (g,k')) blk):
 Rel (addNu ν nx g k') F' w' (look ((nx,some blk)::delO ob) H)∧Evo ν F w H (addNu ν nx g k') F' w' (look ((nx,some blk)::delO ob) H):=by
 have old:∀i,i≠nx→(look ((nx,some blk)::delO ob) H i).isSome=true→look ((nx,some blk)::delO ob) H i=H i∧(H i).isSome=true∧ob≠some i:=fun i hi h=>by
  rw[look_cons_other hi]at h⊢
  obtain ⟨h1,h2⟩:=look_del h
  exact ⟨h1,by rw[←h1];exact h,h2⟩
 have hne:∀i r k,(H i).isSome=true→ob≠some i→ν i=some (r,k)→r≠g∧r<w.heap.size:=fun i r k hi ho e=>by
  have hlt:=hr.mine_lt ⟨i,k,hi,e⟩
  refine ⟨fun h=> ?_,hlt⟩
  subst h
  rcases hg with hg|⟨b,k2,hb,hb1,hb2⟩
  ·omega
  ·have:=hr.inj i b r k k2 hi hb1 e hb2
   subst this;exact ho hb
 have hgF:g=w.heap.size→∀o,¬F g o:=fun hg o ho=>by have:=hr.old_lt ho;omega
 refine ⟨⟨fun i j r ki kj hi hj ei ej=> ?_,fun i b hi=> ?_,fun b o ho=> ?_,hr.glob.keep hk⟩,⟨hk,e1,e2,e3,hsize,fun r hrl hm=> ?_,fun r hm=> ?_,fun b o ho=> ?_⟩⟩
 ·by_cases x1:i=nx<;>by_cases x2:j=nx
  ·rw[x1,x2]
  ·obtain ⟨_,a2,a3⟩:=old j x2 hj
   subst x1
   rw[addNu_same]at ei;injection ei with ei;injection ei with ei1 ei2
   rw[addNu_other ν x2]at ej
   exact absurd ei1.symm (hne j r kj a2 a3 ej).1
  ·obtain ⟨_,a2,a3⟩:=old i x1 hi
   subst x2
   rw[addNu_same]at ej;injection ej with ej;injection ej with ej1 ej2
   rw[addNu_other ν x1]at ei
   exact absurd ej1.symm (hne i r ki a2 a3 ei).1
  ·obtain ⟨_,a2,_⟩:=old i x1 hi
   obtain ⟨_,c2,_⟩:=old j x2 hj
   rw[addNu_other ν x1]at ei;rw[addNu_other ν x2]at ej
   exact hr.inj i j r ki kj a2 c2 ei ej
 ·by_cases x1:i=nx
  ·subst x1;rw[look_cons_same]at hi;injection hi with hi;subst hi;rw[addNu_same];exact hblk
  ·obtain ⟨a1,a2,a3⟩:=old i x1 (by rw[hi];rfl)
   rw[hi]at a1
   rw[addNu_other ν x1]
   refine (hr.blk i b a1.symm).keep hk (More.add hν) (fun r k e=> ?_) (fun r k e o=>⟨fun ho=> ?_,fun ho=>hk.sub _ _ ho⟩)
   ·obtain ⟨n1,n2⟩:=hne i r k a2 a3 e;exact hoth r n2 n1
   ·obtain ⟨n1,n2⟩:=hne i r k a2 a3 e
    rcases hF' r o ho with h|h
    ·exact h
    ·exact absurd h n1
 ·by_cases x:b=g
  ·subst x;exact hcell o ho
  ·rcases hF' b o ho with h|h
   ·rw[hk.same b o h];exact hr.old b o h
   ·exact absurd h x
 ·refine hoth r hrl fun e=> ?_
  rcases hg with hg|⟨b,k2,hb,hb1,hb2⟩
  ·omega
  ·exact hm ⟨b,k2,hb1,by rw[hb2,e]⟩
 ·obtain ⟨i,k,hi,ei⟩:=hm
  by_cases x1:i=nx
  ·subst x1
   rw[addNu_same]at ei;injection ei with ei;injection ei with ei1 ei2;subst ei1
   rcases hg with hg|⟨b,k2,hb,hb1,hb2⟩
   ·right;omega
   ·exact .inl ⟨b,k2,hb1,hb2⟩
  ·obtain ⟨_,a2,_⟩:=old i x1 hi
   rw[addNu_other ν x1]at ei
   exact .inl ⟨i,k,a2,ei⟩
 ·rcases hF' b o ho with h|h
  ·exact .inl h
  ·subst h
   rcases hg with hg|⟨b',k2,hb,hb1,hb2⟩
   ·right;right;omega
   ·exact .inr (.inl ⟨b',k2,hb1,hb2⟩)
theorem Rel.unreal [Laid] {ν:Nu} {F:Fz} {w:World} {H:Hp} (hr:Rel ν F w H) {nx:Nat} (hν:ν nx=none) (hHn:H nx=none) {ob:Option Nat} {α:Type} {ty es:Nat} {df:α} {cs:α→List D} :
 Rel ν F w (look ((nx,some (.row ty es df cs [] 0))::delO ob) H)∧Evo ν F w H ν F w (look ((nx,some (.row ty es df cs [] 0))::delO ob) H):=by
 have old:∀i,i≠nx→(look ((nx,some (Blk.row ty es df cs [] 0))::delO ob) H i).isSome=true→look ((nx,some (Blk.row ty es df cs [] 0))::delO ob) H i=H i∧(H i).isSome=true:=fun i hi h=>by
  rw[look_cons_other hi]at h⊢
  obtain ⟨h1,h2⟩:=look_del h
  exact ⟨h1,by rw[←h1];exact h⟩
 have nn:∀i r k,ν i=some (r,k)→i≠nx:=fun i r k e h=>by subst h;rw[hν]at e;cases e
 refine ⟨⟨fun i j r ki kj hi hj ei ej=>hr.inj i j r ki kj (old i (nn i r ki ei) hi).2 (old j (nn j r kj ej) hj).2 ei ej,fun i b hi=> ?_,hr.old,hr.glob⟩,
  ⟨Keep.refl _ _,rfl,rfl,rfl,Nat.le_refl _,fun _ _ _=>rfl,fun r hm=> ?_,fun _ _ h=> .inl h⟩⟩
 ·by_cases x:i=nx
  ·subst x;rw[look_cons_same]at hi;injection hi with hi;subst hi;rw[hν];exact .inl ⟨rfl,rfl,rfl⟩
  ·obtain ⟨a1,a2⟩:=old i x (by rw[hi];rfl)
   rw[hi]at a1;exact hr.blk i b a1.symm
 ·obtain ⟨i,k,hi,ei⟩:=hm
  exact .inl ⟨i,k,(old i (nn i r k ei) hi).2,ei⟩
theorem FR.BR {ν:Nu} {F:Fz} {w:World} {es:Nat} {α:Type} {df:α} {cs:α→List D} {zs:List α} {vs:List Value} (h:FR F w es (rowL cs zs) vs) {g k ty:Nat} {arr:Array Value} (h1:w.heap[g]? =some (.cells arr ty (0,0))) (h2:k≤maxLen) (h3:arr.size=k*es)
 (h4:zs.length≤k) (h5:arr.toList.take (zs.length*es)=vs) (h6:∀u,u∈arr.toList→u.oneCell'=true) {fz:Nat} (h7:∀o,F g o↔o<fz*es) (h8:fz≤zs.length):BR ν F w (some (g,k)) (.row ty es df cs zs fz):=by
 refine .inr ⟨g,k,arr,rfl,h1,h2,h3,h4,fun z hz=> ?_,h6,fun i e j x u a b c=> ?_,h7,h8⟩
 ·obtain ⟨i,hi⟩:=List.getElem?_of_mem hz
  exact h.el i (cs z) (by simp[rowL,hi])
 ·refine h.val i (cs e) j x u (by simp[rowL,a]) b ?_
  have hi:=(List.getElem?_eq_some_iff.1 a).1
  have hj:j<es:=by
   have:=h.el i (cs e) (by simp[rowL,a])
   rw[←this];exact (List.getElem?_eq_some_iff.1 b).1
  rw[←h5,List.getElem?_take,if_pos (blk_idx hi hj)]
  simpa using c
def dstL (el es:Nat) (g:G) (H:Hp):Option (Prop×List (List D)×Nat×Option Nat×Nat):=
 match g with
 | .d (.sc (.slice none 0 0))=>some (True,[],0,none,0)
 | .sl b es1 0 n=>
   match H b with
   |some (.row ty es' df cs xs fz)=>some (es1=es∧es'=es∧n=xs.length∧ty=el,rowL cs xs,xs.length,some b,fz)
   |_=>none
 |_=>none
theorem run_append_core [Laid] {P:Program} {ν:Nu} {F:Fz} {w:World} {H:Hp} (hr:Rel ν F w H) {t tx ty el:TypeId} {e:TyE} (ht:P.underlying t=some (.slice el)) (ke:TyOK P el e) (hpos:0<e.size) (hb1:0<e.bytes) (hz1:allOne e.zero=true) (hzs:e.zero.cells.size=e.size)
 {gd:G} {prd:Prop} {Ld:List (List D)} {n:Nat} {ob:Option Nat} {fz:Nat} (hd:dstL el e.size gd H=some (prd,Ld,n,ob,fz)) (hpd:prd) {vd:Value} (hvd:VR ν F w gd vd)
 {x:Value} {m:Nat} {news:List Value} (hs:Src P e.size tx x m news w) {Ls:List (List D)} (hfs:FR F w e.size Ls news) (hbound:(n+m)*e.bytes≤140737488355328)
 {α:Type} {df:α} {cs:α→List D} {zs:List α} (hzl:rowL cs zs=Ld++Ls) (hlen:zs.length=n+m) {nx:Nat} (hν:ν nx=none) (hHn:H nx=none):
 ∃(v':Value) (w':World) (ν':Nu) (F':Fz),(Builtin.append_ #[t,tx] ty #[vd,x]).run P w= .ok v' w'∧VR ν' F' w' (.sl nx e.size 0 (n+m)) v'∧Rel ν' F' w' (look ((nx,some (.row el e.size df cs zs fz))::delO ob) H)∧
  More ν ν'∧(∀i,ν' i≠ν i→i=nx)∧Evo ν F w H ν' F' w' (look ((nx,some (.row el e.size df cs zs fz))::delO ob) H):=by
 obtain ⟨i,hi,hi1,hi2,hi3⟩:=ke.info
 have hmax:n+m≤maxLen:=by
  have:(n+m)*1≤(n+m)*e.bytes:=Nat.mul_le_mul_left _ hb1
  unfold maxLen;omega
 have hdst:∃(A:Option Addr) (c:Nat) (olds:List Value),vd= .slice A n c∧FR F w e.size Ld olds∧(Builtin.firstCells e.size n (.slice A n c)).run P w.drew= .ok olds.toArray w.drew∧
  ((A=none∧n=0∧c=0∧fz=0)∨∃b r arr,ob=some b∧(H b).isSome=true∧ν b=some (r,c)∧A=some ⟨r,0,none⟩∧w.heap[r]? =some (.cells arr el (0,0))∧c≤maxLen∧arr.size=c*e.size∧n≤c∧arr.toList.take (n*e.size)=olds∧
    (∀u,u∈arr.toList→u.oneCell'=true)∧(∀o,F r o↔o<fz*e.size)∧fz≤n):=by
  unfold dstL at hd
  split at hd
  ·simp only[Option.some.injEq,Prod.mk.injEq]at hd
   obtain ⟨rfl,rfl,rfl,rfl,rfl⟩:=hd
   exact ⟨none,0,[],hvd.sc_eq.1,FR.nil _ _ _,run_firstCells_none w.drew e.size 0 0 0,.inl ⟨rfl,rfl,rfl,rfl⟩⟩
  ·rename_i b es1 n1
   split at hd
   ·rename_i β ty' es' df' cs' xs fz' hH
    simp only[Option.some.injEq,Prod.mk.injEq]at hd
    obtain ⟨rfl,rfl,rfl,rfl,rfl⟩:=hd
    obtain ⟨rfl,rfl,rfl,rfl⟩:=hpd
    obtain ⟨A,c,rfl,k1,k2,k3⟩:=hvd.sl_inv
    rcases hr.blk b _ hH with ⟨q1,q2,q3⟩|⟨r,q,arr,q1,q2,q2',q3,q4,q5,q6,q7,q8,q9⟩
    ·subst q2;subst q3
     rcases k2 rfl rfl with ⟨r,k,f1,_⟩|⟨rfl,rfl⟩
     ·rw[q1]at f1;cases f1
     ·exact ⟨none,0,[],rfl,FR.nil _ _ _,run_firstCells_none w.drew e.size 0 0 0,.inl ⟨rfl,rfl,rfl,rfl⟩⟩
    ·have hfr:=row_FR (F:=F) (w:=w) (r:=r) (ty:=ty') q3 q4 q5 q6 q7
     have hA:(A=some ⟨r,0,none⟩∧c=q)∨(A=none∧c=0∧xs.length=0):=by
      rcases Nat.eq_zero_or_pos xs.length with h0|h0
      ·rcases k2 h0 rfl with ⟨r',k',f1,f2,f3⟩|⟨f1,f2⟩
       ·rw[q1]at f1;injection f1 with f1;injection f1 with f1 f1';subst f1;subst f1';exact .inl ⟨f2,f3⟩
       ·exact .inr ⟨f1,f2,h0⟩
      ·obtain ⟨r',k',f1,f2,f3,f4⟩:=k1 h0
       rw[q1]at f1;injection f1 with f1;injection f1 with f1 f1';subst f1;subst f1'
       rw[Nat.zero_mul]at f2;rw[Nat.sub_zero]at f4
       exact .inl ⟨f2,f4⟩
     rcases hA with ⟨rfl,rfl⟩|⟨rfl,rfl,h0⟩
     ·refine ⟨_,c,_,rfl,hfr,?_,.inr ⟨b,r,arr,rfl,by rw[hH];rfl,q1,rfl,q2,q2',q3,q4,rfl,q6,q8,q9⟩⟩
      refine run_firstCells_some w.drew e.size xs.length ⟨r,0,none⟩ xs.length c _ (by have:=hfr.len;simpa [rowL]using this) (fun k u hu=> ?_)
      rw[addr_add,Nat.zero_add]
      show w.cell? _=_
      rw[cell_at q2]
      rw[List.getElem?_take]at hu
      split at hu
      ·simpa using hu
      ·cases hu
     ·have hxs:xs= []:=List.eq_nil_of_length_eq_zero h0
      subst hxs
      have:fz'=0:=by simpa using q9
      subst this
      exact ⟨none,0,[],rfl,FR.nil _ _ _,run_firstCells_none w.drew e.size 0 0 0,.inl ⟨rfl,rfl,rfl,rfl⟩⟩
   ·cases hd
  ·cases hd
 obtain ⟨A,c,olds,rfl,hfo,hfirst,hcase⟩:=hdst
 have hfr:=hfo.append hfs
 rw[←hzl]at hfr
 by_cases hroom:n+m≤c
 ·rcases hcase with ⟨rfl,rfl,rfl,rfl⟩|⟨b,r,arr,rfl,hHb,q1,rfl,q2,q2',q3,q4,q5,q6,q8,q9⟩
  ·
   have hm0:m=0:=by omega
   subst hm0
   have hz0:zs= []:=List.eq_nil_of_length_eq_zero (by omega)
   subst hz0
   obtain ⟨h1,h2⟩:=hr.unreal (ob:=ob) (ty:=el) (es:=e.size) (df:=df) (cs:=cs) hν hHn
   refine ⟨.slice none 0 0,w,ν,F,?_,.sl _ _ _ _ _ _ (fun h=>by omega) (fun _ _=> .inr ⟨rfl,rfl⟩) (Nat.le_refl _),h1,More.refl _,fun i hi=>absurd rfl hi,h2⟩
   rcases hs.kind with ⟨e',hk⟩|hk<;>simp[Builtin.append_,run_underlying ht,run_underlying hk,sizeOf,typeInfo,hi,hi1,hs.len,hs.cells]
  ·
   have hnl:news.length=m*e.size:=hs.newsLen
   have hin:∀j,j<news.length→n*e.size+j<arr.size:=fun j hj=>by
    have:(n+m)*e.size≤c*e.size:=Nat.mul_le_mul_right _ hroom
    rw[Nat.add_mul]at this;omega
   have hrun:=run_append_room_src (P:=P) w t tx ty el i ht hi r 0 n c x m news (by rw[hi1];exact hs) hroom (fun j hj=>by rw[hi1,Nat.zero_add,cell_at q2];simp[hin j hj])
    (fun j hj=>by simp[World.frozen?,q2])
   rw[hi1,Nat.zero_add]at hrun
   have hset:w.setCells r (n*e.size) news=w.setRow r (arr.toList.take (n*e.size)++news++arr.toList.drop (n*e.size+news.length)).toArray:=by
    have s1:=run_storeCells_at (P:=P) r (n*e.size) el news 0 arr w q2 (by
     have:(n+m)*e.size≤c*e.size:=Nat.mul_le_mul_right _ hroom
     rw[Nat.add_mul]at this;omega) hs.one
    have s2:=run_storeCells_cells (P:=P) r (n*e.size) news 0 w (fun j hj=>by rw[Nat.add_zero,cell_at q2];simp[hin j hj]) (fun j hj=>by simp[World.frozen?,q2]) hs.one
    rw[s2]at s1
    simp only[Nat.add_zero]at s1
    injection s1
   rw[hset]at hrun
   generalize hvs:(arr.toList.take (n*e.size)++news++arr.toList.drop (n*e.size+news.length))=vs at hrun
   have hal:arr.toList.length=c*e.size:=by simpa using q3
   have hle:n*e.size+m*e.size≤c*e.size:=by rw[←Nat.add_mul];exact Nat.mul_le_mul_right _ hroom
   have hvl:vs.length=c*e.size:=by
    rw[←hvs,List.length_append,List.length_append,List.length_take,List.length_drop,hnl,hal];omega
   have hvt:vs.take ((n+m)*e.size)=olds++news:=by
    rw[←hvs,←q5,Nat.add_mul]
    rw[List.take_append_of_le_length (by rw[List.length_append,List.length_take,hnl,hal];omega)]
    rw[List.take_of_length_le (by rw[List.length_append,List.length_take,hnl,hal];omega)]
   have hw':=setRow_heap w r arr vs.toArray el (0,0) q2
   have hk:Keep F w F (w.setRow r vs.toArray):=⟨fun _ _ h=>h,fun b' o' hb'=>by
    by_cases hbr:b'=r
    ·subst hbr
     have ho:=(q8 o').1 hb'
     have hlt:o'<n*e.size:=Nat.lt_of_lt_of_le ho (Nat.mul_le_mul_right _ q9)
     rw[cell_at hw',cell_at q2]
     have:vs[o']? =arr.toList[o']? :=by
      rw[←hvs,List.append_assoc,List.getElem?_append_left (by rw[List.length_take,hal];omega),List.getElem?_take,if_pos hlt]
     simpa using this
    ·simp only[World.cell?,setRow_other w r b' _ hbr],fun b' o' hb'=>by
    by_cases hbr:b'=r
    ·subst hbr;unfold szAt;rw[hw',q2];simp[hvl,q3]
    ·exact szAt_of (setRow_other w r b' _ hbr)⟩
   have hbr:BR (addNu ν nx r c) F (w.setRow r vs.toArray) (some (r,c)) (.row el e.size df cs zs fz):=
    (hfr.keep hk).BR hw' q2' (by simp[hvl]) (by omega) (by simp only[hlen];exact hvt) (fun u hu=>by
     have hu':u∈vs:=by simpa using hu
     rw[←hvs]at hu'
     rcases List.mem_append.1 hu' with h|h
     ·rcases List.mem_append.1 h with h|h
      ·exact q6 u (List.mem_of_mem_take h)
      ·exact hs.one u h
     ·exact q6 u (List.mem_of_mem_drop h)) q8 (by omega)
   obtain ⟨h1,h2⟩:=hr.moved hν hHn (ob:=some b) (g:=r) (k':=c) (.inr ⟨b,c,rfl,hHb,q1⟩) (fun r' _ hr'=>setRow_other w r r' _ hr') (by simp[World.setRow]) rfl rfl rfl hk (fun _ _ h=> .inl h) (fun o ho=>by rw[hk.same r o ho];exact hr.old r o ho) hbr
   refine ⟨_,_,addNu ν nx r c,F,hrun,?_,h1,More.add hν,fun i hi=> ?_,h2⟩
   ·exact .sl _ _ _ _ _ _ (fun _=>⟨r,c,addNu_same _ _ _ _,by rw[Nat.zero_mul],by omega,by omega⟩) (fun _ _=> .inl ⟨r,c,addNu_same _ _ _ _,rfl,rfl⟩) hroom
   ·exact Classical.byContradiction fun hne=>hi (addNu_other ν hne)
 ·
  have hfit:=growslice_fits (need:=n+m) (old:=c) (bytes:=e.bytes) (by omega) hbound
  have hrun:=run_append_grow_src (P:=P) w t tx ty el i e.zero ht hi hi3 A n c olds (by rw[hi1];exact hfirst) x m news (by rw[hi1];exact hs) (by omega) (by unfold maxLen at hmax;omega) (by rw[hi2];exact hfit)
  generalize hcap:grownCap w (n+m) c el=cap at hrun
  have hcge:n+m≤cap:=by rw[←hcap];exact grownCap_ge _ _ _ _
  have hcle:cap≤maxLen:=by rw[←hcap];exact grownCap_le_maxLen _ _ _ _ hmax
  have hzc:(Builtin.zeroCells e.zero.cells (cap-(n+m))).size=(cap-(n+m))*e.size:=by simp[Builtin.zeroCells,hzs]
  generalize hzr:Builtin.zeroCells e.zero.cells (cap-(n+m))=zr at hrun hzc
  have hz1':∀u,u∈zr.toList→u.oneCell'=true:=fun u hu=>by
   rw[←hzr]at hu
   simp only[Builtin.zeroCells,Array.toList_map,List.mem_map]at hu
   obtain ⟨q,hq,rfl⟩:=hu
   have hlt:q % e.zero.cells.size<e.zero.cells.size:=Nat.mod_lt _ (by omega)
   simp only[allOne,List.all_eq_true]at hz1
   have:e.zero.cells[q % e.zero.cells.size]! =e.zero.cells[q % e.zero.cells.size]'hlt:=by simp[hlt]
   rw[this]
   exact hz1 _ (by simp)
  generalize harr:(olds++news).toArray++zr=arr' at hrun
  have hon:(olds++news).length=(n+m)*e.size:=by rw[hfr.len,rowL,List.length_map,hlen]
  have hsz:arr'.size=cap*e.size:=by
   rw[←harr,Array.size_append,hzc]
   simp only[List.size_toArray,hon]
   rw[←Nat.add_mul]
   congr 1;omega
  have hw':(w.drew.alloc (.cells arr' el)).heap[w.heap.size]? =some (.cells arr' el (0,0)):=heap_alloc_new w.drew _
  let F':Fz:=fun b o=>F b o∨(b=w.heap.size∧o<fz*e.size)
  have hfzn:fz≤n:=by rcases hcase with ⟨_,h1,_,h2⟩|⟨b,r,arr,_,_,_,_,_,_,_,_,_,_,_,h⟩<;>omega
  have hk:Keep F w F' (w.drew.alloc (.cells arr' el)):=⟨fun _ _ h=> .inl h,fun b' o' hb'=>by
   have:=World.cell?_alloc_lt w.drew (.cells arr' el) ⟨b',o',none⟩ (hr.old_lt hb')
   exact this,fun b' o' hb'=>szAt_of (Below.heap_alloc w.drew _ b' (hr.old_lt hb'))⟩
  have hcells:∀o,o<arr'.size→((w.drew.alloc (.cells arr' el)).cell? ⟨w.heap.size,o,none⟩).isSome=true:=fun o ho=>by rw[cell_at hw'];simp[ho]
  have hfzs:fz*e.size≤arr'.size:=by rw[hsz];exact Nat.mul_le_mul_right _ (by omega)
  have hbr:BR (addNu ν nx w.heap.size cap) F' (w.drew.alloc (.cells arr' el)) (some (w.heap.size,cap)) (.row el e.size df cs zs fz):=
   (hfr.keep hk).BR hw' hcle hsz (by omega) (by
    rw[←harr,hlen,Array.toList_append]
    rw[List.take_append_of_le_length (by simp only[hon];exact Nat.le_refl _),List.take_of_length_le (by simp only[hon];exact Nat.le_refl _)]) (fun u hu=>by
     rw[←harr,Array.toList_append]at hu
     rcases List.mem_append.1 hu with h|h
     ·exact hfr.one u (by simpa using h)
     ·exact hz1' u h) (fun o=>⟨fun ho=>by
      rcases ho with ho|ho
      ·have:=hr.old_lt ho;omega
      ·exact ho.2,fun ho=> .inr ⟨rfl,ho⟩⟩) (by omega)
  obtain ⟨h1,h2⟩:=hr.moved hν hHn (ob:=ob) (g:=w.heap.size) (k':=cap) (w':=w.drew.alloc (.cells arr' el)) (F':=F') (.inl rfl) (fun r' hr' _=>Below.heap_alloc w.drew _ r' hr') (by simp) rfl rfl rfl hk
   (fun b o h=>h.imp id (fun h=>h.1)) (fun o ho=>hcells o (by
    rcases ho with ho|ho
    ·have:=hr.old_lt ho;omega
    ·have:=ho.2;omega)) hbr
  refine ⟨_,_,addNu ν nx w.heap.size cap,F',hrun,?_,h1,More.add hν,fun i hi=> ?_,h2⟩
  ·exact .sl _ _ _ _ _ _ (fun _=>⟨w.heap.size,cap,addNu_same _ _ _ _,by rw[Nat.zero_mul],by omega,by omega⟩) (fun _ _=> .inl ⟨w.heap.size,cap,addNu_same _ _ _ _,rfl,rfl⟩) hcge
  ·exact Classical.byContradiction fun hne=>hi (addNu_other ν hne)
end Go.Gh
namespace Go.Gh
open Go Go.RowKit
set_option linter.unusedVariables false
section
variable {P:Program} {T:Tab} {o:Oper} {ρ:Operand→G} {H:Hp}
theorem exec_builtin {b:Builtin} {args:Array Operand} {tys:Array TypeId} (ho:o.op= .call {callee:= .builtin b,args:=args,argTypes:=tys}) (a:Act) (w w':World) (v:Value) (f:Array TypeId→TypeId→Array Value→Sem Value)
 (hb:∀(cs:Array Bool) (vs:Array Value),builtin b tys o.type cs vs=(do pure (.value (←f tys o.type vs)))) (h:(f tys o.type (args.map a.eval)).run P w= .ok v w'):(execOp a.eval o).run P w= .ok (.value v) w':=by
 simp only[execOp,ho,resolve,Sem.run_bind,Sem.run_pure,Result.andThen_ok,invoke,hb,h]
theorem lop_append [Laid] {x y:Operand} {t tx:TypeId} (hT:TabOK P T) (ho:o.op= .call {callee:= .builtin .append,args:= #[x,y],argTypes:= #[t,tx]}) {te xe ee:TyE} (h1:tyAt T t=some te) (h2:tyAt T tx=some xe) {el el':TypeId} (hd1:te.desc= .slice el) (hd2:xe.desc= .slice el')
 (h3:tyAt T el=some ee) (hpos:0<ee.size) (hb1:0<ee.bytes) (hz1:allOne ee.zero=true) (hzs:ee.zero.cells.size=ee.size)
 {prd prs:Prop} {Ld Ls:List (List D)} {n m:Nat} {ob:Option Nat} {fz:Nat} {fp fpd:List Nat} (hd:dstL el ee.size (ρ x) H=some (prd,Ld,n,ob,fz)) (hs:srcL (ρ y) H=some (prs,Ls,m,fp)) (hpd:prd) (hps:prs)
 {α:Type} {df:α} {cs:α→List D} {zs:List α} (hbound:(n+m)*ee.bytes≤140737488355328) (hzl:rowL cs zs=Ld++Ls) (hlen:zs.length=n+m) (hcl:∀z,z∈zs→(cs z).length=ee.size) (nx:Nat)
 (hfd:∀b,ob=some b→b∈fpd):
 LOp P o ρ H {g:= .sl nx ee.size 0 (n+m),upd:=(nx,some (.row el ee.size df cs zs fz))::delO ob,fp:=fpd++fp,new:=[nx]} :=by
 have kt:=hT _ _ h1
 have kx:=hT _ _ h2
 have ke:=hT _ _ h3
 intro H' hf hn
 refine gop_val fun ν F w a hv hr hnew=> ?_
 have hd':dstL el ee.size (ρ x) H'=some (prd,Ld,n,ob,fz):=by
  unfold dstL at hd⊢
  split at hd
  ·exact hd
  ·rename_i b es1 n1 hρ
   split at hd
   ·rename_i β ty' es' df' cs' xs fz' hH
    simp only[Option.some.injEq,Prod.mk.injEq]at hd
    have:H' b=H b:=hf b (by simp[hfd b hd.2.2.2.1.symm])
    rw[this,hH]
    simp only[Option.some.injEq,Prod.mk.injEq]
    exact hd
   ·cases hd
  ·cases hd
 have hs':srcL (ρ y) H'=some (prs,Ls,m,fp):=by
  unfold srcL at hs⊢
  split at hs
  ·exact hs
  ·exact hs
  ·rename_i b es1 i1 n1 hρ
   split at hs
   ·rename_i β ty' es' df' cs' xs fz' hH
    simp only[Option.some.injEq,Prod.mk.injEq]at hs
    have:H' b=H b:=hf b (by simp[←hs.2.2.2])
    rw[this,hH]
    simp only[Option.some.injEq,Prod.mk.injEq]
    exact hs
   ·cases hs
  ·cases hs
 obtain ⟨A,c,news,hye,hfs,hrd⟩:=srcL_sound hs' hps hr (hv y (by simp[ho,Op.operands,Call.operands])) ee.size hpos (fun i e he=>by
  have hmem:e∈rowL cs zs:=by rw[hzl];exact List.mem_append_right _ (List.mem_of_getElem? he)
  obtain ⟨z,hz,rfl⟩:=List.mem_map.1 hmem
  exact hcl z hz)
 have hsrc:Src P ee.size tx (a.eval y) m news w:=by
  rw[hye]
  rcases A with _|ad
  ·have hm:m=0:=by
    rcases Nat.eq_zero_or_pos m with h0|h0
    ·exact h0
    ·obtain ⟨ad,h,_⟩:=hrd.2 h0;cases h
   subst hm
   have:news= []:=List.eq_nil_of_length_eq_zero (by simpa using hrd.1)
   subst this
   exact Src.ofNil w (by rw[kx.1,hd2]) c
  ·refine Src.ofSlice w (by rw[kx.1,hd2]) ad m c news hrd.1 (fun j u hu=> ?_) hfs.one
   rcases Nat.eq_zero_or_pos m with h0|h0
   ·subst h0
    have:news= []:=List.eq_nil_of_length_eq_zero (by simpa using hrd.1)
    subst this;simp at hu
   ·obtain ⟨ad',h,_,hc⟩:=hrd.2 h0
    injection h with h;subst h
    exact hc j u hu
 obtain ⟨v',w',ν',F',r1,r2,r3,r4,r5,r6⟩:=run_append_core hr (by rw[kt.1,hd1]) ke hpos hb1 hz1 hzs hd' hpd (hv x (by simp[ho,Op.operands,Call.operands])) (ty:=o.type) hsrc hfs hbound (df:=df) hzl hlen (hnew nx (by simp)) (hn nx (by simp))
 refine ⟨v',w',ν',F',exec_builtin ho a w w' v' Builtin.append_ (fun _ _=>rfl) (by simpa using r1),r2,r3,r4,fun i hi=>by simp[r5 i hi],r6⟩
def lenG (d:TypeDesc) (g:G):Option Int:=
 match d,g with
 | .string,.d (.sc (.string s))=>some (s.size:Int)
 | .slice _,.d (.row df cs xs)=>some (xs.length:Int)
 | .slice _,.d (.sc (.slice none 0 0))=>some 0
 | .slice _,.sl b es i n=>some (n:Int)
 | .array n _,_=>some (n:Int)
 |_,_=>none
theorem lop_len [Laid] {x:Operand} {t:TypeId} (hT:TabOK P T) (ho:o.op= .call {callee:= .builtin .len,args:= #[x],argTypes:= #[t]}) {te:TyE} (h1:tyAt T t=some te) {n:Int} (h:lenG te.desc (ρ x)=some n):LOp P o ρ H {g:= .d (.sc (.int .i64 n))} :=by
 have kt:=hT _ _ h1
 refine lop_pure fun H' _ ν F w a hv hr=>⟨_,?_,.d (.sc _ rfl)⟩
 have hx:=hv x (by simp[ho,Op.operands,Call.operands])
 refine exec_builtin ho a w w _ Builtin.len_ (fun _ _=>rfl) ?_
 unfold lenG at h
 split at h
 ·rename_i s hd hρ
  rw[hρ]at hx;cases h
  simp[Builtin.len_,kt.under w,hd,hx.sc_eq.1,goInt]
 ·rename_i el α df cs xs hd hρ
  rw[hρ]at hx;cases h
  obtain ⟨A,c,b,off,es,val,hxe,_⟩:=hx.row_inv
  simp[Builtin.len_,kt.under w,hd,hxe,goInt]
 ·rename_i el hd hρ
  rw[hρ]at hx;cases h
  simp[Builtin.len_,kt.under w,hd,hx.sc_eq.1,goInt]
 ·rename_i el b es i n hd hρ
  rw[hρ]at hx;cases h
  obtain ⟨A,c,hxe,_⟩:=hx.sl_inv
  simp[Builtin.len_,kt.under w,hd,hxe,goInt]
 ·rename_i n el hd
  cases h
  simp[Builtin.len_,kt.under w,hd,goInt]
 ·cases h
def optI:Option G→Option (Option Int)
 |none=>some none
 |some (.d (.sc (.int k n)))=>some (some n)
 |_=>none
def loI:Option Int→Int
 |none=>0
 |some n=>n
def hiI (n:Nat):Option Int→Int
 |none=>n
 |some h=>h
def cutL {α:Type} (xs:List α):Option Int→Option Int→List α
 |none,none=>xs
 |none,some h=>xs.take h.toNat
 |some l,none=>xs.drop l.toNat
 |some l,some h=>(xs.take h.toNat).drop l.toNat
theorem cutL_eq {α:Type} (xs:List α) (lo hi:Option Int) (h:hiI xs.length hi≤xs.length):cutL xs lo hi=(xs.take (hiI xs.length hi).toNat).drop (loI lo).toNat:=by
 cases lo<;>cases hi<;>simp[cutL,loI,hiI]
def sliceG (d:TypeDesc) (es:Nat) (g:G) (lo hi:Option Int):Option (Option Prop×G):=
 match d,g with
 | .string,.d (.sc (.string s))=>some (some (0≤loI lo∧loI lo≤hiI s.size hi∧hiI s.size hi≤s.size),.d (.sc (.string (s.extract (loI lo).toNat (hiI s.size hi).toNat))))
 | .slice _,.d (.row df cs xs)=>some (some (0≤loI lo∧loI lo≤hiI xs.length hi∧hiI xs.length hi≤xs.length∧(loI lo<xs.length→(cs (xs.getD (loI lo).toNat df)).length=es)),.d (.row df cs (cutL xs lo hi)))
 | .slice _,.sl b es' i n=>some (some (0≤loI lo∧loI lo≤hiI n hi∧hiI n hi≤n∧es'=es),.sl b es' (i+(loI lo).toNat) ((hiI n hi).toNat-(loI lo).toNat))
 |_,_=>none
theorem run_bound {v:Value} {k:IntKind} {n:Int} (hv:v= .int k n) {y:Nat} {code:BoundsCode} (h0:0≤n) (h1:n≤y) (w:World):(Instr.sliceBound v y code).run P w= .ok n.toNat w:=by
 subst hv
 simp only[Instr.sliceBound,asIntOf,Sem.run_bind,Sem.run_pure,Result.andThen_ok]
 rw[if_pos ⟨h0,h1⟩];rfl
theorem optI_sound {ν:Nu} {F:Fz} {w:World} {a:Act} {x:Option Operand} {lo:Option Int} (h:optI (x.map ρ)=some lo) (hv:∀y,x=some y→VR ν F w (ρ y) (a.eval y)):(x=none∧lo=none)∨∃y k n,x=some y∧lo=some n∧a.eval y= .int k n:=by
 cases x with
 |none=>simp only[Option.map_none,optI,Option.some.injEq]at h;exact .inl ⟨rfl,h.symm⟩
 |some y=>
  simp only[Option.map_some,optI]at h
  split at h
  ·rename_i e;cases e
  ·rename_i k n e
   injection e with e
   cases h
   have:=hv y rfl
   rw[e]at this
   exact .inr ⟨y,k,n,rfl,rfl,this.sc_eq.1⟩
  ·cases h
theorem run_bounds {ν:Nu} {F:Fz} {w:World} {a:Act} {x y:Option Operand} {lo hi:Option Int} (hx:optI (x.map ρ)=some lo) (hy:optI (y.map ρ)=some hi) (vx:∀z,x=some z→VR ν F w (ρ z) (a.eval z)) (vy:∀z,y=some z→VR ν F w (ρ z) (a.eval z))
 {isS:Bool} {len cap:Nat} (h0:0≤loI lo) (h1:loI lo≤hiI len hi) (h2:hiI len hi≤len) (h3:len≤cap):(Instr.sliceBounds isS len cap (x.map a.eval) (y.map a.eval) none).run P w= .ok ((loI lo).toNat,(hiI len hi).toNat,cap) w:=by
 rcases optI_sound hx vx with ⟨rfl,rfl⟩|⟨zx,kx,nx,rfl,rfl,ex⟩<;>rcases optI_sound hy vy with ⟨rfl,rfl⟩|⟨zy,ky,ny,rfl,rfl,ey⟩
 ·simp[Instr.sliceBounds,loI,hiI]
 ·simp only[loI,hiI]at h0 h1 h2⊢
  have e1:=run_bound (P:=P) ey (y:=cap) (code:=if isS then .sliceAcap else .sliceAlen) (by omega) (by omega) w
  simp[Instr.sliceBounds,e1]
 ·simp only[loI,hiI]at h0 h1 h2⊢
  have e1:=run_bound (P:=P) ex (y:=len) (code:= .sliceB) (by omega) (by omega) w
  simp[Instr.sliceBounds,e1]
 ·simp only[loI,hiI]at h0 h1 h2⊢
  have e1:=run_bound (P:=P) ey (y:=cap) (code:=if isS then .sliceAcap else .sliceAlen) (by omega) (by omega) w
  have e2:=run_bound (P:=P) ex (y:=ny.toNat) (code:= .sliceB) (by omega) (by omega) w
  simp[Instr.sliceBounds,e1,e2]
theorem lop_slice [Laid] {t:TypeId} {x:Operand} {lo hi:Option Operand} (hT:TabOK P T) (ho:o.op= .slice t x lo hi none) {te:TyE} (h1:tyAt T t=some te) {es:Nat} (hes:∀el,te.desc= .slice el→∃ee,tyAt T el=some ee∧ee.size=es) {l h:Option Int} (hl:optI (lo.map ρ)=some l) (hh:optI (hi.map ρ)=some h) {pr:Option Prop} {g:G}
 (hs:sliceG te.desc es (ρ x) l h=some (pr,g)) (hp:obP pr):LOp P o ρ H {g:=g} :=by
 have kt:=hT _ _ h1
 refine lop_pure fun H' _ ν F w a hv hr=> ?_
 have hx:=hv x (by simp[ho,Op.operands])
 have vx:∀z,lo=some z→VR ν F w (ρ z) (a.eval z):=fun z hz=>hv z (by simp[ho,Op.operands,hz])
 have vy:∀z,hi=some z→VR ν F w (ρ z) (a.eval z):=fun z hz=>hv z (by simp[ho,Op.operands,hz])
 unfold sliceG at hs
 split at hs
 ·rename_i s hd hρ
  obtain ⟨rfl,rfl⟩:=Prod.mk.inj (Option.some.inj hs)
  rw[hρ]at hx
  obtain ⟨p1,p2,p3⟩:=hp
  have hb:=run_bounds (P:=P) hl hh vx vy (isS:=false) p1 p2 p3 (Nat.le_refl _)
  refine ⟨_,?_,.d (.sc _ rfl)⟩
  simp[execOp,ho,Instr.sliceAt,Instr.slice,kt.under w,hd,hx.sc_eq.1,hb]
 ·rename_i el α df cs xs hd hρ
  obtain ⟨rfl,rfl⟩:=Prod.mk.inj (Option.some.inj hs)
  rw[hρ]at hx
  obtain ⟨p1,p2,p3,p4⟩:=hp
  obtain ⟨ee,he,hee⟩:=hes el hd
  have ke:=hT _ _ he
  obtain ⟨A,c,b,off,es1,val,hxe,hA,hc,hl1,hw,hF,hdr⟩:=hx.row_inv
  have hb:=run_bounds (P:=P) hl hh vx vy (isS:=true) p1 p2 p3 hc
  rw[cutL_eq xs l h p3]
  generalize hL:(loI l).toNat=L at*
  generalize hHh:(hiI xs.length h).toNat=Hn at*
  have hLH:L≤Hn:=by omega
  have hHl:Hn≤xs.length:=by omega
  have hlen:((xs.take Hn).drop L).length=Hn-L:=by rw[List.length_drop,List.length_take];omega
  refine ⟨.slice (if c=L then A else A.map (·.add (L*es))) (Hn-L) (c-L),?_,?_⟩
  ·simp[execOp,ho,Instr.sliceAt,Instr.slice,kt.under w,hd,hxe,hb,ke.sizeOf w,hee]
  ·refine .d ?_
   have hget:∀(i:Nat) e,((xs.take Hn).drop L)[i]? =some e→xs[L+i]? =some e:=fun i e h=>by
    rw[List.getElem?_drop,List.getElem?_take]at h
    split at h
    ·exact h
    ·cases h
   by_cases hz:es1=es
   ·subst hz
    have:=DR.row (F:=F) (w:=w) df cs ((xs.take Hn).drop L) (if c=L then A else A.map (·.add (L*es1))) (c-L) b (off+L*es1) es1 (fun i j=>val (L+i) j) (fun hne=> ?_) (by rw[hlen];omega)
     (fun e he=>hl1 e (List.mem_of_mem_take (List.mem_of_mem_drop he))) (fun i e j x a b=> ?_) (fun i e j x a b=> ?_) (fun i e j x a b=>hdr _ e j x (hget i e a) b)
    ·rw[hlen]at this;exact this
    ·have hpos:0<((xs.take Hn).drop L).length:=List.length_pos_iff.2 hne
     rw[hlen]at hpos
     rw[if_neg (by omega),hA (by intro e;subst e;simp at hHl;omega)]
     simp[addr_add]
    ·have:=hw _ e j x (hget i e a) b
     rw[Nat.add_mul]at this;rw[show off+L*es1+i*es1+j=off+(L*es1+i*es1)+j by omega];exact this
    ·have:=hF _ e j x (hget i e a) b
     rw[Nat.add_mul]at this;rw[show off+L*es1+i*es1+j=off+(L*es1+i*es1)+j by omega];exact this
   ·
    have hL0:¬(L<xs.length):=fun hlt=>hz (by
     have h1:=p4 (by omega)
     have h2:=hl1 (xs.getD L df) (by rw[List.getD_eq_getElem?_getD,List.getElem?_eq_getElem hlt];simp)
     omega)
    have hemp:(xs.take Hn).drop L= []:=List.drop_eq_nil_of_le (by rw[List.length_take];omega)
    rw[hemp]
    have:Hn-L=0:=by omega
    rw[this]
    exact .row df cs [] _ (c-L) 0 0 0 (fun _ _=>undef) (fun h=>absurd rfl h) (by simp) (fun e h=>(by cases h)) (fun i e j x h=>(by simp at h)) (fun i e j x h=>(by simp at h)) (fun i e j x h=>(by simp at h))
 ·rename_i el b es' i n hd hρ
  obtain ⟨rfl,rfl⟩:=Prod.mk.inj (Option.some.inj hs)
  rw[hρ]at hx
  obtain ⟨p1,p2,p3,rfl⟩:=hp
  obtain ⟨ee,he,hee⟩:=hes el hd
  have ke:=hT _ _ he
  obtain ⟨A,c,hxe,k1,k2,k3⟩:=hx.sl_inv
  have k4:=(hxe▸hx).sl_inv4
  have hb:=run_bounds (P:=P) hl hh vx vy (isS:=true) p1 p2 p3 k3
  generalize hL:(loI l).toNat=L at*
  generalize hHh:(hiI n h).toNat=Hn at*
  have hLH:L≤Hn:=by omega
  have hHl:Hn≤n:=by omega
  refine ⟨.slice (if c=L then A else A.map (·.add (L*es'))) (Hn-L) (c-L),?_,?_⟩
  ·simp[execOp,ho,Instr.sliceAt,Instr.slice,kt.under w,hd,hxe,hb,ke.sizeOf w,hee]
  ·refine .sl _ _ _ _ _ _ (fun hpos=> ?_) (fun h0 hi=> ?_) (by omega) (fun h0 hi=> ?_)
   ·obtain ⟨r,q,e1,e2,e3,e4⟩:=k1 (by omega)
    refine ⟨r,q,e1,?_,by omega,by omega⟩
    rw[if_neg (by omega),e2]
    simp[addr_add,Nat.add_mul]
   ·have hi0:i=0:=by omega
    have hL0:L=0:=by omega
    subst hi0;subst hL0
    have e1:(if c=0 then A else A.map (·.add (0*es')))=A:=by
     split
     ·rfl
     ·cases A<;>simp[Addr.add]
    rw[e1,Nat.sub_zero]
    rcases Nat.eq_zero_or_pos n with hn|hn
    ·exact k2 hn rfl
    ·obtain ⟨r,q,f1,f2,f3,f4⟩:=k1 hn
     exact .inl ⟨r,q,f1,by rw[f2,Nat.zero_mul],by omega⟩
   ·by_cases hcL:c=L
    ·exact .inl (by omega)
    ·right
     rw[if_neg hcL]
     rcases Nat.eq_zero_or_pos n with hn|hn
     ·rcases k4 hn (by omega)with h|⟨r,q,f1,f2,f3,f4⟩
      ·omega
      ·exact ⟨r,q,f1,by rw[f2];simp[addr_add,Nat.add_mul],by omega,by omega⟩
     ·obtain ⟨r,q,f1,f2,f3,f4⟩:=k1 hn
      exact ⟨r,q,f1,by rw[f2];simp[addr_add,Nat.add_mul],by omega,by omega⟩
 ·cases hs
end
end Go.Gh
namespace Go.Gh
open Go Go.RowKit
set_option linter.unusedVariables false
def fillG (pl:Nat→Option (Nat×Nat)):List G→List (Nat×G)→Option (List G)
 |gs,[]=>some gs
 |gs,(i,g)::rest=>
  match pl i with
  |some (off,size)=>match fitB (cellsG g) size off gs with
   |some gs'=>fillG pl gs' rest
   |none=>none
  |none=>none
theorem fold_set (off:Nat):∀(l:List Value) (k:Nat) (cells:Array Value),off+k+l.length≤cells.size→
 ((l.zipIdx k).foldl (fun cs (p:Value×Nat)=>cs.setIfInBounds (off+p.2) p.1) cells).toList=cells.toList.take (off+k)++l++cells.toList.drop (off+k+l.length):=by
 intro l
 induction l with
 |nil=>intro k cells _;simp
 |cons v l ih=>
  intro k cells h
  simp only[List.length_cons]at h
  simp only[List.zipIdx_cons,List.foldl_cons]
  rw[ih (k+1) _ (by simp;omega)]
  have e:=list_seg_step cells.toList (off+k) v l (by simp;omega)
  simpa [Array.toList_setIfInBounds,Nat.add_assoc]using e
theorem fill_sound {ν:Nu} {F:Fz} {w:World} {pl:Nat→Option (Nat×Nat)} {ρ:Operand→G} {a:Act} :∀(parts:List (Nat×Operand)),(∀p,p∈parts→VR ν F w (ρ p.2) (a.eval p.2))→∀(gs:List G) (vs:Array Value) (gs':List G),CR ν F w gs vs.toList→
 fillG pl gs (parts.map fun p=>(p.1,ρ p.2))=some gs'→∃vs':Array Value,Instr.fill pl vs (parts.map fun p=>(p.1,a.eval p.2))=some vs'∧CR ν F w gs' vs'.toList:=by
 intro parts
 induction parts with
 |nil=>intro _ gs vs gs' hc h;simp only[List.map_nil,fillG,Option.some.injEq]at h;subst h;exact ⟨vs,rfl,hc⟩
 |cons p parts ih=>
  obtain ⟨i,x⟩:=p
  intro hv gs vs gs' hc h
  simp only[List.map_cons,fillG]at h
  split at h
  ·rename_i off size hpl
   split at h
   ·rename_i gs1 hfit
    obtain ⟨gx,hgx,hsz,hle,rfl⟩:=fitB_inv hfit
    have hx:=(hv (i,x) (by simp)).cells hgx
    have hlx:(a.eval x).cells.size=size:=by rw[←hsz,←hx.len];simp
    have hlv:vs.size=gs.length:=by have:=hc.len;simpa using this
    simp only[List.map_cons,Instr.fill,hpl]
    have hno:¬(((a.eval x).cells.size≠size||off+(a.eval x).cells.size>vs.size)=true):=by
     simp only[Bool.or_eq_true,decide_eq_true_eq,not_or]
     constructor
     ·simp[hlx]
     ·omega
    rw[if_neg hno]
    have hfold:=fold_set off (a.eval x).cells.toList 0 vs (by simp;omega)
    have hzip:((a.eval x).cells.zipIdx.foldl (fun cs (x:Value×Nat)=>cs.setIfInBounds (off+x.2) x.1) vs)=((a.eval x).cells.toList.zipIdx 0).foldl (fun cs (p:Value×Nat)=>cs.setIfInBounds (off+p.2) p.1) vs:=by
     rw[←Array.foldl_toList,Array.toList_zipIdx]
    refine ih (fun p hp=>hv p (by simp[hp])) _ _ gs' ?_ h
    have hz2:((a.eval x).cells.zipIdx.foldl (fun cs (x:Value×Nat)=>match x with|(c,j)=>cs.setIfInBounds (off+j) c) vs)=((a.eval x).cells.zipIdx.foldl (fun cs (x:Value×Nat)=>cs.setIfInBounds (off+x.2) x.1) vs):=rfl
    rw[hz2,hzip,hfold]
    simp only[Nat.add_zero,Array.length_toList,hlx]
    exact ((hc.take off).append hx).append (hc.drop (off+size))
   ·cases h
  ·cases h
def placesG (T:Tab):List Field→Option (List (Nat×Nat))
 | []=>some []
 |f::fs=>match tyAt T f.type,placesG T fs with
  |some e,some l=>some ((f.offset,e.size)::l)
  |_,_=>none
theorem places_sound {P:Program} {T:Tab} (hT:TabOK P T) (w:World):∀(fs:List Field) (l:List (Nat×Nat)),placesG T fs=some l→((fs.mapM fun f=>(do pure (f.offset,←sizeOf f.type):Sem (Nat×Nat)))).run P w= .ok l w:=by
 intro fs
 induction fs with
 |nil=>intro l h;simp only[placesG,Option.some.injEq]at h;subst h;rfl
 |cons f fs ih=>
  intro l h
  simp only[placesG]at h
  split at h
  ·rename_i e l' he hl
   cases h
   simp only[List.mapM_cons,Sem.run_bind,(hT _ _ he).sizeOf w,Result.andThen_ok,Sem.run_pure,ih l' hl]
  ·cases h
def buildG (T:Tab) (e:TyE) (parts:List (Nat×G)):Option G:=
 match e.desc with
 | .struct fs=>match placesG T fs.toList with
   |some pl=>match zeroO e.zero.cells.toList with
    |some z=>match fillG (fun i=>pl[i]?) z parts with
     |some gs=>some (.agg gs)
     |none=>none
    |none=>none
   |none=>none
 | .array n el=>match tyAt T el with
   |some ee=>match zeroO e.zero.cells.toList with
    |some z=>match fillG (fun i=>some (i*ee.size,ee.size)) z parts with
     |some gs=>some (.agg gs)
     |none=>none
    |none=>none
   |none=>none
 |_=>none
section
variable {P:Program} {T:Tab} {o:Oper} {ρ:Operand→G} {H:Hp}
theorem lop_build [Laid] {t:TypeId} {parts:Array (Nat×Operand)} (hT:TabOK P T) (ho:o.op= .build t parts) {e:TyE} (te:tyAt T t=some e) (h1:allOne e.zero=true) {g:G} (h:buildG T e (parts.toList.map fun p=>(p.1,ρ p.2))=some g):LOp P o ρ H {g:=g} :=by
 have k:=hT _ _ te
 have hz:∀(ν:Nu) (F:Fz) (w:World),CR ν F w (zeroCellsG e.zero) e.zero.cells.toList:=fun ν F w=>zero_CR h1
 have hparts:∀(a:Act),(parts.map fun p=>(p.1,a.eval p.2)).toList=parts.toList.map fun p=>(p.1,a.eval p.2):=fun a=>by simp
 unfold buildG at h
 split at h
 ·rename_i fs hd
  split at h
  ·rename_i pl hpl
   split at h
   ·rename_i z hz0
    have:=zeroO_eq _ _ hz0
    subst this
    split at h
    ·rename_i gs hfill
     cases h
     refine lop_pure fun H' _ ν F w a hv hr=> ?_
     obtain ⟨vs',f1,f2⟩:=fill_sound parts.toList (fun p hp=>hv p.2 (by simp only[ho,Op.operands];simp;exact ⟨p.1,by simpa using hp⟩)) _ e.zero.cells gs (hz ν F w) hfill
     refine ⟨.agg vs',?_,by have:=f2.agg;simpa using this⟩
     have hpl':=places_sound hT w fs.toList pl hpl
     have hm:(fs.mapM fun f=>(do pure (f.offset,←sizeOf f.type):Sem (Nat×Nat))).run P w= .ok pl.toArray w:=by
      rw[Array.mapM_eq_mapM_toList,Sem.run_map,hpl'];rfl
     simp only[execOp,ho,Instr.build,Sem.run_bind,k.zeroV w,Result.andThen_ok,k.under w,hd,hm]
     have:(fun (x:Nat)=>pl.toArray[x]?)=fun (i:Nat)=>pl[i]? :=by funext i;simp
     have hp2:(parts.map fun (x:Nat×Operand)=>match x with|(i,x)=>(i,a.eval x)).toList=parts.toList.map fun p=>(p.1,a.eval p.2):=hparts a
     rw[this,hp2,f1]
     rfl
    ·cases h
   ·cases h
  ·cases h
 ·rename_i n el hd
  split at h
  ·rename_i ee hee
   split at h
   ·rename_i z hz0
    have:=zeroO_eq _ _ hz0
    subst this
    split at h
    ·rename_i gs hfill
     cases h
     refine lop_pure fun H' _ ν F w a hv hr=> ?_
     obtain ⟨vs',f1,f2⟩:=fill_sound parts.toList (fun p hp=>hv p.2 (by simp only[ho,Op.operands];simp;exact ⟨p.1,by simpa using hp⟩)) _ e.zero.cells gs (hz ν F w) hfill
     refine ⟨.agg vs',?_,by have:=f2.agg;simpa using this⟩
     have hp2:(parts.map fun (x:Nat×Operand)=>match x with|(i,x)=>(i,a.eval x)).toList=parts.toList.map fun p=>(p.1,a.eval p.2):=hparts a
     simp only[execOp,ho,Instr.build,Sem.run_bind,k.zeroV w,Result.andThen_ok,k.under w,hd,(hT _ _ hee).sizeOf w]
     rw[hp2,f1]
     rfl
    ·cases h
   ·cases h
  ·cases h
 ·cases h
def toD:G→Option D
 | .d x=>some x
 |_=>none
def toDs:List G→Option (List D)
 | []=>some []
 |g::l=>match toD g,toDs l with
  |some x,some xs=>some (x::xs)
  |_,_=>none
theorem toDs_map:∀(l:List G) (xs:List D),toDs l=some xs→l=xs.map .d:=by
 intro l
 induction l with
 |nil=>intro xs h;simp only[toDs,Option.some.injEq]at h;subst h;rfl
 |cons g l ih=>
  intro xs h
  simp only[toDs]at h
  split at h
  ·rename_i x xs' hx hl
   cases h
   cases g<;>simp only[toD,reduceCtorEq,Option.some.injEq]at hx
   subst hx
   rw[List.map_cons,←ih _ hl]
  ·cases h
def litG (size:Nat):Nat→List (Nat×G)→Option (List (List D))
 |_,[]=>some []
 |k,(i,g)::rest=>
  bif Nat.beq i k then
   match cellsG g with
   |some gs=>bif Nat.beq gs.length size then
    match toDs gs,litG size (k+1) rest with
    |some xs,some l=>some (xs::l)
    |_,_=>none
    else none
   |none=>none
  else none
theorem lit_sound {ν:Nu} {F:Fz} {w:World} {size:Nat} {ρ:Operand→G} {a:Act} :∀(parts:List (Nat×Operand)),(∀p,p∈parts→VR ν F w (ρ p.2) (a.eval p.2))→∀(k:Nat) (L:List (List D)) (vs:Array Value),litG size k (parts.map fun p=>(p.1,ρ p.2))=some L→
 (k+parts.length)*size≤vs.size→∃vs' news,Instr.fill (fun i=>some (i*size,size)) vs (parts.map fun p=>(p.1,a.eval p.2))=some vs'∧vs'.toList=vs.toList.take (k*size)++news++vs.toList.drop ((k+parts.length)*size)∧FR F w size L news∧L.length=parts.length:=by
 intro parts
 induction parts with
 |nil=>
  intro _ k L vs h _
  simp only[List.map_nil,litG,Option.some.injEq]at h;subst h
  exact ⟨vs,[],rfl,by simp,FR.nil _ _ _,rfl⟩
 |cons p parts ih=>
  obtain ⟨i,x⟩:=p
  intro hv k L vs h hle
  simp only[List.map_cons,litG]at h
  cases hik:Nat.beq i k with
  |false=>rw[hik]at h;cases h
  |true=>
   rw[hik]at h
   simp only[cond_true]at h
   have:=Nat.eq_of_beq_eq_true hik;subst this
   split at h
   ·rename_i gs hgs
    cases hsz:Nat.beq gs.length size with
    |false=>rw[hsz]at h;cases h
    |true=>
     rw[hsz]at h
     simp only[cond_true]at h
     have hsz:=Nat.eq_of_beq_eq_true hsz
     split at h
     ·rename_i xs l hxs hl
      cases h
      have hx:=(hv (i,x) (by simp)).cells hgs
      have hlx:(a.eval x).cells.size=size:=by rw[←hsz,←hx.len];simp
      simp only[List.length_cons]at hle
      have hle2:i*size+size+parts.length*size≤vs.size:=by
       have:(i+(parts.length+1))*size=i*size+size+parts.length*size:=by rw[Nat.add_mul,Nat.add_mul,Nat.one_mul];omega
       omega
      have hno:¬(((a.eval x).cells.size≠size||i*size+(a.eval x).cells.size>vs.size)=true):=by
       simp only[Bool.or_eq_true,decide_eq_true_eq,not_or]
       constructor
       ·simp[hlx]
       ·omega
      have hfold:=fold_set (i*size) (a.eval x).cells.toList 0 vs (by simp;omega)
      have hzip:((a.eval x).cells.zipIdx.foldl (fun cs (x:Value×Nat)=>match x with|(c,j)=>cs.setIfInBounds (i*size+j) c) vs)=((a.eval x).cells.toList.zipIdx 0).foldl (fun cs (p:Value×Nat)=>cs.setIfInBounds (i*size+p.2) p.1) vs:=by
       rw[←Array.foldl_toList,Array.toList_zipIdx]
      generalize hvs1:((a.eval x).cells.zipIdx.foldl (fun cs (x:Value×Nat)=>match x with|(c,j)=>cs.setIfInBounds (i*size+j) c) vs)=vs1 at*
      have hl1:vs1.toList=vs.toList.take (i*size)++(a.eval x).cells.toList++vs.toList.drop (i*size+size):=by
       rw[hzip,hfold];simp only[Nat.add_zero,Array.length_toList,hlx]
      have hs1:vs1.size=vs.size:=by
       have:=congrArg List.length hl1
       simp only[Array.length_toList,List.length_append,List.length_take,List.length_drop,hlx]at this
       omega
      obtain ⟨vs',news,r1,r2,r3,r4⟩:=ih (fun p hp=>hv p (by simp[hp])) (i+1) l vs1 hl (by rw[hs1,Nat.add_mul,Nat.add_mul,Nat.one_mul];omega)
      have hfrx:FR F w size [xs] (a.eval x).cells.toList:=by
       have hmap:=toDs_map gs xs hxs
       refine ⟨by simp[hlx],hx.one,fun i e h=> ?_,fun i e j y u h1 h2 h3=> ?_⟩
       ·match i with
        |0=>simp at h;subst h;rw[←hsz,hmap];simp
        |i+1=>simp at h
       ·match i with
        |0=>
         simp at h1;subst h1
         rw[Nat.zero_mul,Nat.zero_add]at h3
         have:=hx.val j (.d y) u (by rw[hmap,List.getElem?_map,h2];rfl) h3
         cases this with
         |d h=>exact h
        |i+1=>simp at h1
      refine ⟨vs',(a.eval x).cells.toList++news,?_,?_,hfrx.append r3,by simp[r4]⟩
      ·simp only[List.map_cons,Instr.fill]
       rw[if_neg hno,hvs1]
       exact r1
      ·rw[r2,hl1]
       have hA:(vs.toList.take (i*size)).length=i*size:=by rw[List.length_take,Array.length_toList];omega
       have t1:(vs.toList.take (i*size)++(a.eval x).cells.toList++vs.toList.drop (i*size+size)).take ((i+1)*size)=vs.toList.take (i*size)++(a.eval x).cells.toList:=by
        rw[Nat.succ_mul,List.take_append_of_le_length (by simp[hlx];omega),List.take_of_length_le (by simp[hlx];omega)]
       have t2:(vs.toList.take (i*size)++(a.eval x).cells.toList++vs.toList.drop (i*size+size)).drop ((i+1+parts.length)*size)=vs.toList.drop ((i+(parts.length+1))*size):=by
        have hX:(vs.toList.take (i*size)++(a.eval x).cells.toList).length=i*size+size:=by rw[List.length_append,hA,Array.length_toList,hlx]
        have hN:(i+1+parts.length)*size=i*size+size+parts.length*size:=by rw[Nat.add_mul,Nat.add_mul,Nat.one_mul]
        rw[List.drop_append,hX,hN,List.drop_eq_nil_of_le (by rw[hX];omega),List.nil_append,List.drop_drop]
        congr 1
        rw[Nat.add_mul,Nat.add_mul,Nat.one_mul];omega
       rw[t1,t2]
       simp only[List.length_cons,List.append_assoc]
     ·cases h
   ·cases h
def litC (L:List (List D)):Nat→List D:=fun i=>L.getD i []
theorem lit_rowL (L:List (List D)):rowL (litC L) (List.range L.length)=L:=by
 apply List.ext_getElem?
 intro i
 rw[rowL,List.getElem?_map]
 rcases Nat.lt_or_ge i L.length with h|h
 ·rw[List.getElem?_range h,List.getElem?_eq_getElem h];simp[litC,h]
 ·rw[List.getElem?_eq_none (by simpa using h),List.getElem?_eq_none h];rfl
theorem lop_buildSlice [Laid] {t:TypeId} {n:Nat} {parts:Array (Nat×Operand)} (hT:TabOK P T) (ho:o.op= .buildSlice t n parts) {te:TyE} (h1:tyAt T t=some te) {el:TypeId} (hd:te.desc= .slice el) {ee:TyE} (h2:tyAt T el=some ee) (hz1:allOne ee.zero=true) (hzs:Nat.beq ee.zero.cells.size ee.size=true)
 {L:List (List D)} (hn:Nat.beq n parts.toList.length=true) (hb:Nat.ble (n*ee.size) 16777216=true) (hnb:Nat.ble n 16777216=true) (h:litG ee.size 0 (parts.toList.map fun p=>(p.1,ρ p.2))=some L) (nx:Nat)
 {α:Type} {df:α} {cs:α→List D} {zs:List α} (hzl:rowL cs zs=L):
 LOp P o ρ H {g:= .sl nx ee.size 0 n,upd:=[(nx,some (.row el ee.size df cs zs 0))],new:=[nx]} :=by
 have hzlen:zs.length=L.length:=by rw[←hzl,rowL,List.length_map]
 have kt:=hT _ _ h1
 have ke:=hT _ _ h2
 have hzs:=Nat.eq_of_beq_eq_true hzs
 have hn:=Nat.eq_of_beq_eq_true hn
 have hb:=Nat.le_of_ble_eq_true hb
 intro H' _ hnone
 refine gop_val fun ν F w a hv hr hnew=> ?_
 have hν:=hnew nx (by simp)
 generalize hzr:(Array.range (n*ee.size)).map (fun i=>(if n*ee.size=0 then #[]else ee.zero.cells)[i % (if n*ee.size=0 then #[]else ee.zero.cells).size]!)=zr
 have hzsz:zr.size=n*ee.size:=by rw[←hzr];simp
 have hzone:∀u,u∈zr.toList→u.oneCell'=true:=fun u hu=>by
  rw[←hzr]at hu
  simp only[Array.toList_map,List.mem_map,Array.toList_range,List.mem_range]at hu
  obtain ⟨q,hq,rfl⟩:=hu
  have h0:¬(n*ee.size=0):=by omega
  rw[if_neg h0]
  have hpos:0<ee.zero.cells.size:=by
   rw[hzs]
   rcases Nat.eq_zero_or_pos ee.size with h|h
   ·rw[h,Nat.mul_zero]at h0;exact absurd rfl h0
   ·exact h
  have hlt:q % ee.zero.cells.size<ee.zero.cells.size:=Nat.mod_lt _ hpos
  simp only[allOne,List.all_eq_true]at hz1
  have:ee.zero.cells[q % ee.zero.cells.size]! =ee.zero.cells[q % ee.zero.cells.size]'hlt:=by simp[hlt]
  rw[this]
  exact hz1 _ (by simp)
 obtain ⟨vs',news,f1,f2,f3,f4⟩:=lit_sound parts.toList (fun p hp=>hv p.2 (by simp only[ho,Op.operands];simp;exact ⟨p.1,by simpa using hp⟩)) 0 L zr h (by rw[Nat.zero_add,←hn,hzsz];exact Nat.le_refl _)
 have hvs:vs'.toList=news:=by
  rw[f2,Nat.zero_mul,List.take_zero,List.nil_append,Nat.zero_add,←hn,List.drop_eq_nil_of_le (by rw[Array.length_toList,hzsz];exact Nat.le_refl _),List.append_nil]
 have hvsz:vs'.size=n*ee.size:=by
  have:=f3.len
  rw[f4,←hn]at this
  rw[←this,←hvs];simp
 have hrun:(execOp a.eval o).run P w= .ok (.value (.slice (some ⟨w.heap.size,0,none⟩) n n)) (w.alloc (.cells vs' el)):=by
  have hp2:(parts.map fun (x:Nat×Operand)=>match x with|(i,x)=>(i,a.eval x)).toList=parts.toList.map fun p=>(p.1,a.eval p.2):=by simp
  have hlim:¬(n*ee.size>2^24):=by omega
  simp only[execOp,ho,Instr.buildSlice,Sem.run_bind,kt.under w,Result.andThen_ok,hd,ke.sizeOf w]
  rw[if_neg hlim]
  by_cases h0:n*ee.size=0
  ·rw[if_pos h0]at hzr⊢
   simp only[Sem.run_bind,Sem.run_pure,Result.andThen_ok,hp2]
   rw[hzr,f1]
   rfl
  ·rw[if_neg h0]at hzr⊢
   simp only[Sem.run_bind,Sem.run_pure,Result.andThen_ok,ke.zeroV w,hp2]
   rw[hzr,f1]
   rfl
 have hw':(w.alloc (.cells vs' el)).heap[w.heap.size]? =some (.cells vs' el (0,0)):=heap_alloc_new w _
 have hk:Keep F w F (w.alloc (.cells vs' el)):=keep_alloc (fun b o hb=>hr.old_lt hb) _
 have hbr:BR (addNu ν nx w.heap.size n) F (w.alloc (.cells vs' el)) (some (w.heap.size,n)) (.row el ee.size df cs zs 0):=by
  have hfr:FR F (w.alloc (.cells vs' el)) ee.size (rowL cs zs) news:=by rw[hzl];exact f3.keep hk
  have hnm:n≤maxLen:=by
   have:=Nat.le_of_ble_eq_true hnb
   unfold maxLen;omega
  refine hfr.BR hw' hnm hvsz (by rw[hzlen,f4,←hn];exact Nat.le_refl _) ?_ (fun u hu=>f3.one u (by rw[←hvs];exact hu)) (fun o=>⟨fun ho=>by have:=hr.old_lt ho;omega,fun ho=>by omega⟩) (by simp)
  rw[hvs,hzlen,f4,←hn,List.take_of_length_le (by rw[f3.len,f4,←hn];exact Nat.le_refl _)]
 obtain ⟨r1,r2⟩:=hr.add hν (hnone nx (by simp)) _ hbr
 refine ⟨_,_,addNu ν nx w.heap.size n,F,hrun,?_,r1,More.add hν,fun i hi=> ?_,r2⟩
 ·exact .sl _ _ _ _ _ _ (fun _=>⟨w.heap.size,n,addNu_same _ _ _ _,by rw[Nat.zero_mul],by omega,by omega⟩) (fun _ _=> .inl ⟨w.heap.size,n,addNu_same _ _ _ _,rfl,rfl⟩) (Nat.le_refl _)
 ·by_cases e:i=nx
  ·simp[e]
  ·exact absurd (addNu_other ν e) hi
end
end Go.Gh
namespace Go.Gh
open Go Go.RowKit
set_option linter.unusedVariables false
theorem VR.closed {ν ν':Nu} {F:Fz} {w:World} {g:G} {v:Value} (h:VR ν F w g v):g.lt 0=true→VR ν' F w g v:=by
 induction h with
 |d h=>intro _;exact .d h
 |ptr b es i f r k h=>intro hl;simp[G.lt]at hl
 |sl b es i n A c h1 h2 h3=>intro hl;simp[G.lt]at hl
 |ep cells b off val hw hF h=>intro _;exact .ep cells b off val hw hF h
 |fn f first captured fs cs h1 h2 _ _ i1 i2=>
  intro hl
  simp only[G.lt,ltL_all,Bool.and_eq_true,List.all_eq_true]at hl
  exact .fn f first captured fs cs h1 h2 (fun j g u a b=>i1 j g u a b (hl.1 g (List.mem_of_getElem? a))) (fun j g u a b=>i2 j g u a b (hl.2 g (List.mem_of_getElem? a)))
 |agg cells cs h1 hc _ ih=>
  intro hl
  simp only[G.lt,ltL_all,List.all_eq_true]at hl
  exact .agg cells cs h1 hc (fun j g u a b=>ih j g u a b (hl g (List.mem_of_getElem? a)))
 |tup vs us h1 _ ih=>
  intro hl
  simp only[G.lt,ltL_all,List.all_eq_true]at hl
  exact .tup vs us h1 (fun j g u a b=>ih j g u a b (hl g (List.mem_of_getElem? a)))
 |iface t g u _ ih=>intro hl;exact .iface t g u (ih hl)
 |mp b r k h=>intro hl;simp[G.lt]at hl
 |opt c g u _ h0 ih=>intro hl;exact .opt c g u (fun hc=>ih hc hl) h0
 |ex v g _ ih=>intro hl;exact .ex v g (ih hl)
 |junk u=>intro _;exact .junk u
def Body (P:Program) (f:FuncId):Prop:=∃fn c,P.funcs[f]? =some fn∧fn.body=some c∧(fn.name== "runtime.NumGoroutine")=false
def VRs (ν:Nu) (F:Fz) (w:World) (gs:List G) (vs:Array Value):Prop:=vs.size=gs.length∧∀(j:Nat) g u,gs[j]? =some g→vs[j]? =some u→VR ν F w g u
def GC [Laid] (P:Program) (f:FuncId) (args:List G) (g:G):Prop:=
 Body P f∧∀(ν:Nu) (F:Fz) (w:World) (H:Hp) (vs:Array Value),Rel ν F w H→VRs ν F w args vs→
  Calls P f vs w fun e w'=>∃(F':Fz) (v:Value),e= .returned v∧VR ν F' w' g v∧Rel ν F' w' H∧Evo ν F w H ν F' w' H
theorem GC.ent [Laid] {P:Program} {f:FuncId} {args:List G} {g g':G} (h:GC P f args g) (he:Ent g g'):GC P f args g':=
 ⟨h.1,fun ν F w H vs hr hv=>(h.2 ν F w H vs hr hv).mono fun e w' ⟨F',v,h1,h2,h3,h4⟩=>⟨F',v,h1,he _ _ _ _ h2,h3,h4⟩⟩
def EntL:List G→List G→Prop
 | [],[]=>True
 |a::l,b::l'=>Ent a b∧EntL l l'
 |_,_=>False
theorem EntL.refl:∀l,EntL l l
 | []=>trivial
 |a::l=>⟨Ent.refl a,EntL.refl l⟩
theorem EntL.vrs {ν:Nu} {F:Fz} {w:World} :∀(l l':List G),EntL l l'→l.length=l'.length∧∀(j:Nat) g' u,l'[j]? =some g'→(∀g,l[j]? =some g→VR ν F w g u)→VR ν F w g' u:=by
 intro l
 induction l with
 |nil=>intro l' h;cases l' with
  |nil=>exact ⟨rfl,fun j g' u h=>(by simp at h)⟩
  |cons b l'=>cases h
 |cons a l ih=>intro l' h;cases l' with
  |nil=>cases h
  |cons b l'=>
   obtain ⟨h1,h2⟩:=ih l' h.2
   refine ⟨by simp[h1],fun j g' u hj hv=> ?_⟩
   match j with
   |0=>simp at hj;subst hj;exact h.1 _ _ _ _ (hv a rfl)
   |j+1=>exact h2 j g' u (by simpa using hj) (fun g hg=>hv g (by simpa using hg))
def andO:Option Prop→Option Prop→Option Prop
 |none,q=>q
 |p,none=>p
 |some a,some b=>some (a∧b)
theorem andO_spec {p q:Option Prop} (h:obP (andO p q)):obP p∧obP q:=by
 cases p<;>cases q<;>first|exact ⟨trivial,trivial⟩|exact ⟨trivial,h⟩|exact ⟨h,trivial⟩|exact h
def apU:List (Nat×Option Blk)→List (Nat×Option Blk)→List (Nat×Option Blk)
 | [],l=>l
 |x::k,l=>x::apU k l
theorem apU_eq (k l:List (Nat×Option Blk)):apU k l=k++l:=by
 induction k with
 |nil=>rfl
 |cons x k ih=>simp[apU,ih]
abbrev ArgR:=Option (Option Prop×G×List (Nat×Option Blk))
def arg1 (H:Hp) (g:G):ArgR:=
 match g with
 | .sl b es i n=>match H b,i with
   |some (.row ty es' df cs xs fz),0=>bif Nat.beq es es' then some (some (n=xs.length),.d (.row df cs xs),[(b,some (.row ty es' df cs xs xs.length))])else none
   |none,i=>some (none,.sl b es i n,[])
   |_,_=>none
 |g=>some (none,g,[])
def args1 (H:Hp):List G→Option (Option Prop×List G×List (Nat×Option Blk))
 | []=>some (none,[],[])
 |g::l=>match arg1 H g,args1 H l with
  |some (p,g',u),some (q,l',u')=>some (andO p q,g'::l',apU u u')
  |_,_=>none
def arg2 (H:Hp) (g:G):ArgR:=
 match g with
 | .agg cells=>match args1 H cells with
   |some (p,c',u)=>some (p,.agg c',u)
   |none=>none
 |g=>arg1 H g
def args2 (H:Hp):List G→Option (Option Prop×List G×List (Nat×Option Blk))
 | []=>some (none,[],[])
 |g::l=>match arg2 H g,args2 H l with
  |some (p,g',u),some (q,l',u')=>some (andO p q,g'::l',apU u u')
  |_,_=>none
def FzU (H:Hp) (u:List (Nat×Option Blk)):Prop:=∀q,q∈u→∃(ty es:Nat) (α:Type) (df:α) (cs:α→List D) (xs:List α) (fz:Nat),H q.1=some (.row ty es df cs xs fz)∧q.2=some (.row ty es df cs xs xs.length)
theorem FzU.append {H:Hp} {u v:List (Nat×Option Blk)} (h:FzU H u) (k:FzU H v):FzU H (apU u v):=fun q hq=>by
 rw[apU_eq]at hq
 rcases List.mem_append.1 hq with hq|hq
 ·exact h q hq
 ·exact k q hq
theorem look_u {H:Hp} :∀ {u:List (Nat×Option Blk)},FzU H u→∀q,q∈u→look u H q.1=q.2:=by
 intro u
 induction u with
 |nil=>intro _ q hq;cases hq
 |cons x u ih=>
  intro h q hq
  show (bif Nat.beq q.1 x.1 then x.2 else look u H q.1)=q.2
  cases hb:Nat.beq q.1 x.1 with
  |true=>
   obtain ⟨ty,es,α,df,cs,xs,fz,e1,e2⟩:=h x List.mem_cons_self
   obtain ⟨ty',es',α',df',cs',xs',fz',e1',e2'⟩:=h q hq
   rw[Nat.eq_of_beq_eq_true hb,e1]at e1'
   injection e1' with e1'
   injection e1' with a1 a2 a3 a4 a5 a6 a7
   subst a1;subst a2;subst a3;cases a4;cases a5;cases a6
   show x.2=q.2
   rw[e2,e2']
  |false=>
   rcases List.mem_cons.1 hq with rfl|hq
   ·rw[Nat.beq_refl]at hb;cases hb
   ·exact ih (fun q hq=>h q (List.mem_cons_of_mem _ hq)) q hq
theorem freeze_u [Laid] {ν:Nu} {F:Fz} {w:World} {H:Hp} (hr:Rel ν F w H):∀(u:List (Nat×Option Blk)),FzU H u→∃F',Rel ν F' w (look u H)∧Keep F w F' w∧Evo ν F w H ν F' w (look u H):=by
 intro u
 induction u with
 |nil=>intro _;exact ⟨F,hr,Keep.refl _ _,Evo.refl _ _ _ _⟩
 |cons x u ih=>
  intro h
  have hu:FzU H u:=fun q hq=>h q (List.mem_cons_of_mem _ hq)
  obtain ⟨F1,r1,k1,e1⟩:=ih hu
  obtain ⟨ty,es,α,df,cs,xs,fz,a1,a2⟩:=h x List.mem_cons_self
  have hx:∃fz',look u H x.1=some (.row ty es df cs xs fz'):=by
   by_cases hm:x.1∈u.map (·.1)
   ·obtain ⟨q,hq,hqe⟩:=List.mem_map.1 hm
    obtain ⟨ty',es',α',df',cs',xs',fz',b1,b2⟩:=hu q hq
    have:=look_u hu q hq
    rw[hqe]at this b1
    rw[a1]at b1
    injection b1 with b1
    injection b1 with c1 c2 c3 c4 c5 c6 c7
    subst c1;subst c2;subst c3;cases c4;cases c5;cases c6
    exact ⟨_,this.trans b2⟩
   ·exact ⟨fz,(look_other _ _ _ hm).trans a1⟩
  obtain ⟨fz',hx⟩:=hx
  obtain ⟨F2,r2,k2,e2,_⟩:=r1.freeze hx
  have hl:look [(x.1,some (.row ty es df cs xs xs.length))] (look u H)=look (x::u) H:=by
   obtain ⟨i,ob⟩:=x
   cases a2
   rw[←look_append];rfl
  rw[hl]at r2 e2
  exact ⟨F2,r2,k1.trans k2,e1.trans e2⟩
theorem arg1_sound [Laid] {H:Hp} {g g':G} {p:Option Prop} {u:List (Nat×Option Blk)} (h:arg1 H g=some (p,g',u)) (hp:obP p):FzU H u∧
 ∀(ν:Nu) (F:Fz) (w:World) (H1:Hp) (v:Value),Rel ν F w H1→(∀q,q∈u→H1 q.1=q.2)→VR ν F w g v→VR ν F w g' v:=by
 unfold arg1 at h
 split at h
 ·rename_i b es i n
  split at h
  ·rename_i i0 α ty es' df cs xs fz hb
   cases he:Nat.beq es es' with
   |false=>rw[he]at h;cases h
   |true=>
    rw[he]at h
    cases h
    have:=Nat.eq_of_beq_eq_true he
    subst this
    have hp:n=xs.length:=hp
    subst hp
    refine ⟨fun q hq=> ?_,fun ν F w H1 v hr hq hv=> .d (VR.row_data hr (hq _ (List.mem_singleton.2 rfl)) hv)⟩
    rw[List.mem_singleton.1 hq]
    exact ⟨_,_,_,_,_,_,_,hb,rfl⟩
  ·cases h
   exact ⟨fun q hq=>(by cases hq),fun ν F w H1 v _ _ hv=>hv⟩
  ·cases h
 ·cases h
  exact ⟨fun q hq=>(by cases hq),fun ν F w H1 v _ _ hv=>hv⟩
def ArgsOK [Laid] (H:Hp) (a:List G→Option (Option Prop×List G×List (Nat×Option Blk))):Prop:=
 ∀(l l':List G) (p:Option Prop) (u:List (Nat×Option Blk)),a l=some (p,l',u)→obP p→FzU H u∧l'.length=l.length∧
  ∀(ν:Nu) (F:Fz) (w:World) (H1:Hp),Rel ν F w H1→(∀q,q∈u→H1 q.1=q.2)→∀(j:Nat) g g' v,l[j]? =some g→l'[j]? =some g'→VR ν F w g v→VR ν F w g' v
theorem args_step [Laid] {H:Hp} {f:G→ArgR} {a:List G→Option (Option Prop×List G×List (Nat×Option Blk))} (hf:∀ {g g' p u},f g=some (p,g',u)→obP p→FzU H u∧
 ∀(ν:Nu) (F:Fz) (w:World) (H1:Hp) (v:Value),Rel ν F w H1→(∀q,q∈u→H1 q.1=q.2)→VR ν F w g v→VR ν F w g' v)
 (h0:a []=some (none,[],[])) (h1:∀g l,a (g::l)=match f g,a l with
  |some (p,g',u),some (q,l',u')=>some (andO p q,g'::l',apU u u')
  |_,_=>none):ArgsOK H a:=by
 intro l
 induction l with
 |nil=>
  intro l' p u h hp
  rw[h0]at h
  cases h
  exact ⟨fun q hq=>(by cases hq),rfl,fun ν F w H1 _ _ j g g' v e=>(by simp at e)⟩
 |cons x l ih=>
  intro l' p u h hp
  rw[h1]at h
  split at h
  ·rename_i p1 g1 u1 p2 l2 u2 e1 e2
   cases h
   obtain ⟨q1,q2⟩:=andO_spec hp
   obtain ⟨a1,a2⟩:=hf e1 q1
   obtain ⟨b1,b2,b3⟩:=ih _ _ _ e2 q2
   refine ⟨a1.append b1,by simp[b2],fun ν F w H1 hr hq j g g' v hg hg' hv=> ?_⟩
   cases j with
   |zero=>simp at hg hg';subst hg;subst hg';exact a2 ν F w H1 v hr (fun q hq'=>hq q (by rw[apU_eq];exact List.mem_append_left _ hq')) hv
   |succ j=>exact b3 ν F w H1 hr (fun q hq'=>hq q (by rw[apU_eq];exact List.mem_append_right _ hq')) j g g' v (by simpa using hg) (by simpa using hg') hv
  ·cases h
theorem args1_sound [Laid] {H:Hp} :ArgsOK H (args1 H):=args_step (H:=H) (f:=arg1 H) (a:=args1 H) arg1_sound rfl (fun _ _=>rfl)
theorem arg2_sound [Laid] {H:Hp} {g g':G} {p:Option Prop} {u:List (Nat×Option Blk)} (h:arg2 H g=some (p,g',u)) (hp:obP p):FzU H u∧
 ∀(ν:Nu) (F:Fz) (w:World) (H1:Hp) (v:Value),Rel ν F w H1→(∀q,q∈u→H1 q.1=q.2)→VR ν F w g v→VR ν F w g' v:=by
 unfold arg2 at h
 split at h
 ·split at h
  ·rename_i cells x0 p' c' u' e
   cases h
   obtain ⟨a1,a2,a3⟩:=args1_sound _ _ _ _ e hp
   refine ⟨a1,fun ν F w H1 v hr hq hv=> ?_⟩
   cases hv with
   |agg cells cs k1 hc k=>
    exact .agg _ _ (by rw[k1,a2]) hc fun j g' u hg' hu=>by
     have hlt:j<cells.length:=by rw[←a2];exact (List.getElem?_eq_some_iff.1 hg').1
     exact a3 ν F w H1 hr hq j cells[j] g' u (List.getElem?_eq_getElem hlt) hg' (k j _ u (List.getElem?_eq_getElem hlt) hu)
  ·cases h
 ·exact arg1_sound h hp
theorem args2_sound [Laid] {H:Hp} :ArgsOK H (args2 H):=args_step (H:=H) (f:=arg2 H) (a:=args2 H) arg2_sound rfl (fun _ _=>rfl)
section
variable {P:Program} {T:Tab} {o:Oper} {ρ:Operand→G} {H:Hp}
def calleeG (g:G) (args:List G):Option (FuncId×List G):=
 match g with
 | .d (.sc (.func (.func k) a b))=>bif Nat.beq a.size 0&&Nat.beq b.size 0 then some (k,args)else none
 | .fn (.func k) first captured=>some (k,first++args++captured)
 |_=>none
theorem lop_call [Laid] {f:Operand} {args:Array Operand} {tys:Array TypeId} (ho:o.op= .call {callee:= .value f,args:=args,argTypes:=tys}) {k:FuncId} {gs gs':List G} (hc:calleeG (ρ f) (args.toList.map ρ)=some (k,gs)) {p:Option Prop} {ga:List G} {u:List (Nat×Option Blk)} (hu:args2 H gs=some (p,ga,u)) (hp:obP p) {g:G} (he:EntL ga gs') (h:GC P k gs' g):LOp P o ρ H {g:=g,upd:=u,fp:=u.map (·.1)} :=by
 intro H' hfp _ ν F w a hv hr hnew
 obtain ⟨⟨fn,c,b1,b2,b3⟩,hcall⟩:=h
 have hargs:VRs ν F w (args.toList.map ρ) (args.map a.eval):=⟨by simp,fun j g u hg hu=>by
  rw[List.getElem?_map]at hg
  rw[Array.getElem?_map]at hu
  cases hj:args[j]? with
  |none=>rw[hj]at hu;cases hu
  |some x=>
   have hj':args.toList[j]? =some x:=by simpa using hj
   rw[hj']at hg;rw[hj]at hu
   simp only[Option.map_some]at hg hu
   injection hg with hg;injection hu with hu;subst hg;subst hu
   exact hv x (by simp only[ho,Op.operands,Call.operands];simp;right;exact Array.mem_of_getElem? hj)⟩
 have hfv:=hv f (by simp[ho,Op.operands,Call.operands])
 have key:∃vs:Array Value,(execOp a.eval o).run P w= .ok (.enter k vs) w∧VRs ν F w gs vs:=by
  have enter:∀vs,(callFunc k vs).run P w= .ok (.enter k vs) w:=fun vs=>by
   have hnm:¬(fn.name= "runtime.NumGoroutine"):=by simpa using b3
   have hb:fn.body.isNone=false:=by rw[b2];rfl
   simp[callFunc,b1,hnm,b2]
  unfold calleeG at hc
  split at hc
  ·rename_i k1 fa fb hρ
   cases hab:(Nat.beq fa.size 0&&Nat.beq fb.size 0)with
   |false=>rw[hab]at hc;cases hc
   |true=>
   rw[hab]at hc
   simp only[Bool.and_eq_true]at hab
   obtain rfl:fa= #[]:=Array.eq_empty_of_size_eq_zero (Nat.eq_of_beq_eq_true hab.1)
   obtain rfl:fb= #[]:=Array.eq_empty_of_size_eq_zero (Nat.eq_of_beq_eq_true hab.2)
   cases hc
   rw[hρ]at hfv
   refine ⟨args.map a.eval,?_,hargs⟩
   have e1: #[]++args.map a.eval++ #[]=args.map a.eval:=by simp
   simp only[execOp,ho,resolve,hfv.sc_eq.1,Deferred.ofValue,Sem.run_bind,Sem.run_pure,Result.andThen_ok,invoke,e1,enter]
  ·rename_i k1 first captured hρ
   cases hc
   rw[hρ]at hfv
   cases hfe:a.eval f<;>rw[hfe]at hfv<;>cases hfv
   rename_i fs cs h1 r1 h2 r2
   refine ⟨fs++args.map a.eval++cs,?_,?_⟩
   ·simp only[execOp,ho,resolve,hfe,Deferred.ofValue,Sem.run_bind,Sem.run_pure,Result.andThen_ok,invoke,enter]
   ·refine ⟨by simp[h1,h2],fun j g u hg hu=> ?_⟩
    rw[Array.getElem?_append,Array.getElem?_append]at hu
    rw[List.getElem?_append,List.getElem?_append]at hg
    simp only[List.length_append,List.length_map,Array.length_toList,Array.size_append,Array.size_map,h1]at hg hu
    split at hg
    ·rename_i hj
     rw[if_pos hj]at hu
     split at hg
     ·rename_i hj2;rw[if_pos hj2]at hu;exact r1 j g u hg hu
     ·rename_i hj2;rw[if_neg hj2]at hu;exact hargs.2 _ g u hg hu
    ·rename_i hj
     rw[if_neg hj]at hu
     exact r2 _ g u hg hu
  ·cases hc
 obtain ⟨vs,hrun,hvs⟩:=key
 obtain ⟨f1,f2,f3⟩:=args2_sound _ _ _ _ hu hp
 have hu':FzU H' u:=fun q hq=>by
  obtain ⟨ty,es,α,df,cs,xs,fz,e1,e2⟩:=f1 q hq
  exact ⟨ty,es,α,df,cs,xs,fz,(hfp q.1 (List.mem_map.2 ⟨q,hq,rfl⟩)).trans e1,e2⟩
 obtain ⟨F1,r1,k1,e1⟩:=freeze_u hr u hu'
 have hvs':VRs ν F1 w gs' vs:=by
  obtain ⟨x1,x2⟩:=EntL.vrs (ν:=ν) (F:=F1) (w:=w) ga gs' he
  refine ⟨by rw[hvs.1,←x1,f2],fun j g' u hg hu=>x2 j g' u hg fun g hg=> ?_⟩
  have hlt:j<gs.length:=by rw[←f2];exact (List.getElem?_eq_some_iff.1 hg).1
  exact f3 ν F1 w _ r1 (fun q hq=>look_u hu' q hq) j gs[j] g u (List.getElem?_eq_getElem hlt) hg ((hvs.2 j _ u (List.getElem?_eq_getElem hlt) hu).keep k1 (More.refl _))
 refine ⟨noDefer_of hrun fun d e=>(by cases e),?_⟩
 rw[hrun]
 refine Calls.mono (hcall ν F1 w _ vs r1 hvs') fun e w' ⟨F',v,h1,h2,h3,h4⟩=> ?_
 exact ⟨v,h1,ν,F',v,rfl,h2,h3,More.refl _,fun i hi=>absurd rfl hi,e1.trans h4⟩
end
def argT:Nat→List G→List (Nat×G)
 |_,[]=>[]
 |k,g::l=>(k,g)::argT (k+1) l
theorem argT_get:∀(l:List G) (k t:Nat),getG (argT k l) t=if k≤t then (l[t-k]?).getD .junk else .junk:=by
 intro l
 induction l with
 |nil=>intro k t;simp[argT,getG]
 |cons g l ih=>
  intro k t
  simp only[argT,getG]
  cases e:Nat.beq t k with
  |true=>rw[Nat.eq_of_beq_eq_true e];simp
  |false=>
   have hne:t≠k:=fun h=>by subst h;rw[Nat.beq_refl]at e;cases e
   simp only[cond_false,ih]
   by_cases h:k≤t
   ·rw[if_pos h,if_pos (by omega)]
    obtain ⟨m,hm⟩:∃m,t-k=m+1:=⟨t-k-1,by omega⟩
    rw[hm,show t-(k+1)=m by omega]
    rfl
   ·rw[if_neg h,if_neg (by omega)]
def RetOK [Laid] (P:Program) (fn:Func) (σ:St) (g:G):Prop:=
 ∀(ν:Nu) (F:Fz) (a:Act) (w:World) (nt p:Nat),RS σ ν F a w nt p→∃(F':Fz) (v:Value),(results fn a.tmps).run P w= .ok v w∧VR ν F' w g v∧Keep F w F' w∧(∀b o,F' b o→F b o∨Mine ν σ.H b)∧(∀b o,F' b o→(w.cell? ⟨b,o,none⟩).isSome=true)
structure Shut (Ds:List Nat) (w w':World):Prop where
 os:w'.os=w.os
 tape:w'.tape=w.tape
 output:w'.output=w.output
 size:w'.heap.size=w.heap.size
 other:∀r,r∉Ds→w'.heap[r]? =w.heap[r]?
theorem leave_marks {P:Program} {fn:Func} {tmps:Array Value} {R:Ending→World→Prop} {ro:Option Nat} :∀(Ds:List Nat) (w:World),Ds.Nodup→(∀D,D∈Ds→w.heap[D]? =some (.deferred (some [])))→
 (∀w',Shut Ds w w'→∃v,(results fn tmps).run P w'= .ok v w'∧R (.returned v) w')→LeavesInM (rnd ro) 0 P fn tmps R (Ds.map fun D=> {target:= .collected D,args:= #[]}) .returning w:=by
 intro Ds
 induction Ds with
 |nil=>intro w _ _ h;exact h w ⟨rfl,rfl,rfl,rfl,fun _ _=>rfl⟩
 |cons D Ds ih=>
  intro w hn hh h
  obtain ⟨h1,h2⟩:=List.nodup_cons.1 hn
  have hlt:D<w.heap.size:=(Array.getElem?_eq_some_iff.1 (hh D List.mem_cons_self)).1
  have hother:∀r,r≠D→(w.putObj D (.deferred none)).heap[r]? =w.heap[r]? :=fun r hr=>by
   simp[World.putObj,Ne.symm hr]
  refine ⟨by simp,.inl ⟨D,w.putObj D (.deferred none),rfl,run_takeDeferred (hh D List.mem_cons_self),ih _ h2 (fun E hE=> ?_) fun w' hw'=>h w' ?_⟩⟩
  ·rw[hother E fun e=>h1 (e▸hE)];exact hh E (List.mem_cons_of_mem _ hE)
  ·refine ⟨hw'.os,hw'.tape,hw'.output,hw'.size.trans (by simp[World.putObj]),fun r hr=> ?_⟩
   simp only[List.mem_cons,not_or]at hr
   rw[hw'.other r hr.2,hother r hr.1]
theorem shut_rel [Laid] {ν:Nu} {F:Fz} {w w':World} {H:Hp} {Ds:List Nat} (hr:Rel ν F w H) (hd:∀D,D∈Ds→w.heap[D]? =some (.deferred (some []))) (hs:Shut Ds w w'):
 Rel ν F w' H∧Keep F w F w'∧∀r,Mine ν H r→w'.heap[r]? =w.heap[r]? :=by
 have hF:∀b o,F b o→w'.heap[b]? =w.heap[b]? :=fun b o h=>hs.other b fun hm=>by
  have h1:=hr.old b o h
  simp only[World.cell?,hd b hm]at h1
  cases h1
 have hk:Keep F w F w':=⟨fun _ _ h=>h,fun b o h=>by simp only[World.cell?,hF b o h],fun b o h=>szAt_of (hF b o h)⟩
 have hm:∀r,Mine ν H r→w'.heap[r]? =w.heap[r]? :=fun r ⟨i,k,hi,e⟩=>hs.other r fun hmem=>by
  have h4:=hd r hmem
  obtain ⟨b,hb⟩:=Option.isSome_iff_exists.1 hi
  have hbr:=hr.blk i b hb
  rw[e]at hbr
  cases b with
  |box cells=>obtain ⟨r,q,arr,T,e1,h5,_⟩:=hbr;cases e1;rw[h4]at h5;cases h5
  |row ty es df cs xs fz=>
   rcases hbr with ⟨h5,_⟩|⟨r,q,arr,e1,h5,_⟩
   ·cases h5
   ·cases e1;rw[h4]at h5;cases h5
  |mp L=>obtain ⟨r,q,es,c,e1,h5,_⟩:=hbr;cases e1;rw[h4]at h5;cases h5
  |tbx T vs=>obtain ⟨r,q,e1,h5,_⟩:=hbr;cases e1;rw[h4]at h5;cases h5
 exact ⟨⟨hr.inj,fun i b hi=>(hr.blk i b hi).keep hk (More.refl _) (fun r k e=>hm r ⟨i,k,by rw[hi];rfl,e⟩) (fun _ _ _ _=>Iff.rfl),fun b o h=>by rw[hk.same b o h];exact hr.old b o h,hr.glob.keep hk⟩,hk,hm⟩
theorem map_inj {α β:Type} {f:α→β} (hf:Function.Injective f):∀l l':List α,l.map f=l'.map f→l=l'
 | [],[],_=>rfl
 | [],_::_,h=>by simp at h
 |_::_,[],h=>by simp at h
 |a::l,b::l',h=>by
  simp only[List.map_cons,List.cons.injEq]at h
  rw[hf h.1,map_inj hf l l' h.2]
theorem shut_end [Laid] {ν ν':Nu} {F F':Fz} {w w':World} {H:Hp} {σ:St} {a':Act} {nt p q:Nat} {P:Program} {fn:Func} {R:Ending→World→Prop} {ro:Option Nat} (hr:RS σ ν' F' a' w' nt p) (he:Evo ν F w H ν' F' w' σ.H) (hp:Pin q ν ν' [] a'.defers w.heap.size)
 (h:∀(a2:Act) (w2:World),a2.tmps=a'.tmps→RS σ ν' F' a2 w2 nt p→Evo ν F w H ν' F' w2 σ.H→∃v,(results fn a2.tmps).run P w2= .ok v w2∧R (.returned v) w2):LeavesInM (rnd ro) 0 P fn a'.tmps R a'.defers .returning w':=by
 obtain ⟨Ds,h1,h2⟩:=hp.more
 obtain ⟨Ds',k1,k2,k3⟩:=hr.defers
 rw[h1,List.append_nil,filter_marks,←List.append_nil (Ds.map _),←h1]at k2
 have e:Ds'=Ds:=by
  rw[List.append_nil,k2]at h1
  have hinj:Function.Injective (fun D:Nat=>({target:= .collected D,args:= #[]} :Deferred)):=fun x y hxy=>by injection hxy with a b;injection a
  exact map_inj hinj _ _ h1
 subst e
 rw[k2]
 refine leave_marks Ds' w' k1 k3 fun w2 hs=> ?_
 obtain ⟨r1,r2,r3⟩:=shut_rel hr.rel k3 hs
 refine h {tmps:=a'.tmps,defers:=[]} w2 rfl ⟨hr.pin,fun t=>(hr.vals t).keep r2 (More.refl _),r1,.nil _,hr.free,hr.size,hr.fresh⟩ ⟨he.keep.trans r2,hs.os.trans he.os,hs.tape.trans he.tape,hs.output.trans he.output,by rw[hs.size];exact he.size,fun r hlt hm=> ?_,he.mine,he.fz⟩
 rw[hs.other r fun hD=>by have:=h2 r hD;omega]
 exact he.frame r hlt hm
def Ends (e:Exit):Prop:=e= .normal∨e= .ret
theorem gc_of_gw [Laid] {P:Program} {f:FuncId} {fn:Func} {c:Code} {args:List G} {g:G} (hf:P.funcs[f]? =some fn) (hb:fn.body=some c) (hname:(fn.name== "runtime.NumGoroutine")=false) (hargs:G.ltL 0 args=true) (hlen:Nat.ble args.length fn.ntmps=true)
 (hg:g.lt 0=true) (h:GW P fn.ntmps 0 c ⟨argT 0 args,[],0⟩ (fun e σ=>Ends e∧RetOK P fn σ g)):GC P f args g:=by
 refine ⟨⟨fn,c,hf,hb,hname⟩,fun ν F w H vs hr hv=> ?_⟩
 have hle:=Nat.le_of_ble_eq_true hlen
 simp only[ltL_all,List.all_eq_true]at hargs
 have hrs:RS ⟨argT 0 args,[],0⟩ (fun _=>none) F {tmps:=vs++Array.replicate (fn.ntmps-vs.size) undef,defers:=[]} w fn.ntmps 0:=by
  refine ⟨Nat.le_refl _,fun t=> ?_,⟨fun i j r k k' hi=>(by cases hi),fun i b hb=>(by cases hb),hr.old,hr.glob⟩,.nil _,fun _ _=>rfl,by simp[hv.1];omega,fun i _=>rfl⟩
  show VR _ F w (getG (argT 0 args) t) _
  rw[argT_get,if_pos (Nat.zero_le _),Nat.sub_zero]
  cases ht:args[t]? with
  |none=>exact .junk _
  |some g'=>
   have hlt:t<vs.size:=by rw[hv.1];exact (List.getElem?_eq_some_iff.1 ht).1
   have e1:(vs++Array.replicate (fn.ntmps-vs.size) undef).getD t undef=vs[t]:=by
    simp[Array.getD,hlt]
    intro h;omega
   rw[e1]
   exact (hv.2 t g' _ ht (by simp[hlt])).closed (hargs g' (List.mem_of_getElem? ht))
 refine (callsIn_wide (n:=0)).1 (callsIn_of_wp_marks hf hb trivial ?_)
 refine wpIn_mono (h none _ F _ w hrs (Lives.none w)) fun e a0 w0 ⟨σ',ν',F',⟨he,hret⟩,hr0,hev0,hpin⟩=> ?_
 suffices hh:LeavesInM (rnd none) 0 P fn a0.tmps (fun e w'=>∃(F':Fz) (v:Value),e= .returned v∧VR ν F' w' g v∧Rel ν F' w' H∧Evo ν F w H ν F' w' H) a0.defers .returning w0 by
  rcases he with rfl|rfl<;>exact hh
 refine shut_end hr0 hev0 hpin fun a' w' ea hr' hev=> ?_
 obtain ⟨F'',v,x1,x2,x3,x4,x5⟩:=hret ν' F' a' w' _ _ hr'
 have hmine:∀r,¬Mine (fun _=>none) (St.H ⟨argT 0 args,[],0⟩) r:=fun r ⟨i,k,h,_⟩=>by cases h
 have hF:∀b o,F'' b o→F b o∨w.heap.size≤b:=fun b o ho=>by
  rcases x4 b o ho with h|h
  ·rcases hev.fz b o h with h|h|h
   ·exact .inl h
   ·exact absurd h (hmine b)
   ·exact .inr h
  ·rcases hev.mine b h with h|h
   ·exact absurd h (hmine b)
   ·exact .inr h
 have hk:=hev.keep.trans x3
 have hR:∃(F':Fz) (v':Value),Ending.returned v= .returned v'∧VR ν F' w' g v'∧Rel ν F' w' H∧Evo ν F w H ν F' w' H:=by
  refine ⟨F'',v,rfl,x2.closed hg,⟨hr.inj,fun i b hb=> ?_,x5,hr.glob.keep hk⟩,⟨hk,hev.os,hev.tape,hev.output,hev.size,fun r hrl _=>hev.frame r hrl (hmine r),fun r h=> .inl h,fun b o ho=>(hF b o ho).imp id .inr⟩⟩
  refine (hr.blk i b hb).keep hk (More.refl _) (fun r k e=> ?_) (fun r k e o=>⟨fun ho=> ?_,fun ho=>hk.sub _ _ ho⟩)
  ·exact hev.frame r (hr.mine_lt ⟨i,k,by rw[hb];rfl,e⟩) (hmine r)
  ·rcases hF r o ho with h|h
   ·exact h
   ·have:=hr.mine_lt ⟨i,k,by rw[hb];rfl,e⟩;omega
 exact ⟨v,x1,hR⟩
end Go.Gh
namespace Go.Gh
open Go Go.RowKit
set_option linter.unusedVariables false
def frzAll (ν:Nu) (F:Fz) (H:Hp):Fz:=fun b o=>F b o∨∃(i k:Nat) (α:Type) (ty es:Nat) (df:α) (cs:α→List D) (xs:List α) (fz:Nat),H i=some (.row ty es df cs xs fz)∧ν i=some (b,k)∧o<xs.length*es
theorem frzAll_keep {ν:Nu} {F:Fz} {w:World} {H:Hp} :Keep F w (frzAll ν F H) w:=⟨fun _ _ h=> .inl h,fun _ _ _=>rfl,fun _ _ _=>rfl⟩
theorem row_data {ν:Nu} {F F':Fz} {w:World} {b ty es:Nat} {α:Type} {df:α} {cells:α→List D} {xs:List α} {fz:Nat} (hb:BR ν F w (ν b) (.row ty es df cells xs fz)) (hk:Keep F w F' w)
 (hF:∀r k,ν b=some (r,k)→∀o,o<xs.length*es→F' r o) {v:Value} (hv:VR ν F w (.sl b es 0 xs.length) v):DR F' w (.row df cells xs) v:=by
 obtain ⟨A,c,rfl,h1,h2,h3⟩:=hv.sl_inv
 rcases hb with ⟨e1,e2,e3⟩|⟨r,k,arr,e,k1,k1',k2,k3,k4,k5,k6,k7,k8⟩
 ·subst e2
  exact .row df cells [] A c 0 0 0 (fun _ _=>undef) (fun h=>absurd rfl h) h3 (fun e h=>(by cases h)) (fun i e j x h=>(by simp at h)) (fun i e j x h=>(by simp at h)) (fun i e j x h=>(by simp at h))
 ·have hlt:∀(i:Nat) e (j:Nat) x,xs[i]? =some e→(cells e)[j]? =some x→i*es+j<xs.length*es:=fun i e j x a b=>by
   have hi:=(List.getElem?_eq_some_iff.1 a).1
   have hj:=(List.getElem?_eq_some_iff.1 b).1
   rw[k4 e (List.mem_of_getElem? a)]at hj
   exact blk_idx hi hj
  have hsz:xs.length*es≤arr.size:=by rw[k2];exact Nat.mul_le_mul_right es k3
  refine .row df cells xs A c r 0 es (fun i j=>arr.getD (i*es+j) undef) (fun hne=> ?_) h3 k4 (fun i z j x a b=> ?_) (fun i z j x a b=> ?_) (fun i z j x a b=> ?_)
  ·obtain ⟨r',k',e',hA,_⟩:=h1 (List.length_pos_iff.2 hne)
   rw[e]at e';injection e' with e';injection e' with e1 e2;subst e1
   rw[hA,Nat.zero_mul]
  ·have:=hlt i z j x a b
   simp only[World.cell?,k1,Nat.zero_add]
   have:i*es+j<arr.size:=by omega
   simp[this]
  ·rw[Nat.zero_add];exact hF r k e _ (hlt i z j x a b)
  ·have:=hlt i z j x a b
   exact (k6 i z j x _ a b (by have:i*es+j<arr.size:=by omega
                               simp[this])).keep hk
def viewOne (H:Hp):G→Prop×G
 | .sl b es i n=>match H b with
   |some (.row ty es' df cs xs fz)=>(i=0∧n=xs.length∧es=es',.d (.row df cs xs))
   |_=>(True,.junk)
 |g=>(True,g)
def viewL (H:Hp):List G→Prop
 | []=>True
 |g::l=>(viewOne H g).1∧viewL H l
def viewG (H:Hp):G→Prop×G
 | .agg cells=>(viewL H cells,.agg (cells.map fun g=>(viewOne H g).2))
 |g=>viewOne H g
theorem viewOne_sound [Laid] {ν:Nu} {F:Fz} {w:World} {H:Hp} (hr:Rel ν F w H) {g:G} {v:Value} (hp:(viewOne H g).1) (hv:VR ν F w g v):VR ν (frzAll ν F H) w (viewOne H g).2 v:=by
 unfold viewOne at hp⊢
 split at hp
 ·rename_i b es i n
  split at hp
  ·rename_i α ty es' df cs xs fz hH
   obtain ⟨rfl,rfl,rfl⟩:=hp
   have:=row_data (hr.blk b _ hH) (frzAll_keep (H:=H)) (fun r k e o ho=> .inr ⟨b,k,α,ty,es,df,cs,xs,fz,hH,e,ho⟩) hv
   exact .d this
  ·exact .junk _
 ·exact hv.keep frzAll_keep (More.refl _)
theorem viewL_at {H:Hp} :∀(l:List G),viewL H l→∀(j:Nat) g,l[j]? =some g→(viewOne H g).1:=by
 intro l
 induction l with
 |nil=>intro _ j g h;simp at h
 |cons a l ih=>
  intro h j g hj
  match j with
  |0=>simp at hj;subst hj;exact h.1
  |j+1=>exact ih h.2 j g (by simpa using hj)
theorem viewG_sound [Laid] {ν:Nu} {F:Fz} {w:World} {H:Hp} (hr:Rel ν F w H) {g:G} {v:Value} (hp:(viewG H g).1) (hv:VR ν F w g v):VR ν (frzAll ν F H) w (viewG H g).2 v:=by
 unfold viewG at hp⊢
 split at hp
 ·rename_i cells
  obtain ⟨cs,rfl,hc⟩:=hv.agg_inv
  refine .agg _ _ (by have:=hc.len;simpa using this) hc.one (fun j g u hg hu=> ?_)
  rw[List.getElem?_map]at hg
  cases hj:cells[j]? with
  |none=>rw[hj]at hg;cases hg
  |some g0=>
   rw[hj]at hg;simp only[Option.map_some]at hg;injection hg with hg;subst hg
   exact viewOne_sound hr (viewL_at cells hp j g0 hj) (hc.val j g0 u hj (by simpa using hu))
 ·exact viewOne_sound hr hp hv
def resOne (T:Tab) (σ:St):ResultVar→Option G
 | .tmp t=>some (σ.get t)
 | .cell a t=>match tyAt T t,σ.get a with
   |some e,.ptr b _ 0 0=>match σ.H b with
    |some (.box cells)=>partG (aggD e.desc) e.size 0 cells
    |_=>none
   |_,_=>none
def resL (T:Tab) (σ:St):List ResultVar→Option (List G)
 | []=>some []
 |r::l=>match resOne T σ r,resL T σ l with
  |some g,some gs=>some (g::gs)
  |_,_=>none
def views (H:Hp):List G→Prop
 | []=>True
 |g::l=>(viewG H g).1∧views H l
def tupG:List G→G
 | [g]=>g
 |gs=> .tup gs
def resSem (tmps:Array Value):ResultVar→Sem Value
 | .tmp t=>pure (tmps.getD t undef)
 | .cell x t=>do loadVar t (←asAddr (tmps.getD x undef))
theorem results_eq (fn:Func) (tmps:Array Value):results fn tmps=(do let vs ←fn.results.mapM (resSem tmps);pure (if h:vs.size=1 then vs[0]else .tuple vs)):=by
 unfold results
 have:(fun (x:ResultVar)=>(match x with| .tmp t=>(pure (tmps.getD t undef):Sem Value)| .cell a t=>(do loadVar t (←asAddr (tmps.getD a undef)))))=resSem tmps:=by
  funext x;cases x<;>rfl
 rw[←this]
 rfl
theorem resOne_sound [Laid] {P:Program} {T:Tab} (hT:TabOK P T) {σ:St} {ν:Nu} {F:Fz} {a:Act} {w:World} {nt p:Nat} (hr:RS σ ν F a w nt p) {r:ResultVar} {g:G} (h:resOne T σ r=some g):
 ∃v,(resSem a.tmps r).run P w= .ok v w∧VR ν F w g v:=by
 unfold resOne at h
 split at h
 ·rename_i t;cases h;exact ⟨_,rfl,hr.vals t⟩
 ·rename_i x t
  split at h
  ·rename_i e b es hte hx
   split at h
   ·rename_i cells hH
    obtain ⟨r,q,arr,T',e1,e2,hc,_⟩:=(hr.rel.blk b _ hH).box_cells
    have hv:=hr.vals x
    rw[hx]at hv
    obtain ⟨r',k',he,hxe⟩:=hv.ptr_inv
    rw[e1]at he;injection he with he;injection he with he1 he2;subst he1
    obtain ⟨v,h1,h2⟩:=part_load (hT _ _ hte) hc h (r:=r) (off:=0) (fun j v hj=>by rw[Nat.zero_add,cell_at e2];simpa using hj)
    refine ⟨v,?_,h2⟩
    rw[Nat.zero_mul]at hxe
    simp only[resSem,hxe,asAddr,Sem.run_bind,Sem.run_pure,Result.andThen_ok]
    simp only[Instr.loadAt,Instr.sureAddr,Sem.run_bind,Sem.run_pure,Result.andThen_ok]at h1
    exact h1
   ·cases h
  ·cases h
theorem resL_sound [Laid] {P:Program} {T:Tab} (hT:TabOK P T) {σ:St} {ν:Nu} {F:Fz} {a:Act} {w:World} {nt p:Nat} (hr:RS σ ν F a w nt p):∀(rs:List ResultVar) (gs:List G),resL T σ rs=some gs→views σ.H gs→
 ∃vs:List Value,(rs.mapM (resSem a.tmps)).run P w= .ok vs w∧vs.length=gs.length∧
  ∀(j:Nat) g u,gs[j]? =some g→vs[j]? =some u→VR ν (frzAll ν F σ.H) w (viewG σ.H g).2 u:=by
 intro rs
 induction rs with
 |nil=>intro gs h _;simp only[resL,Option.some.injEq]at h;subst h;exact ⟨[],rfl,rfl,fun j g u h=>(by simp at h)⟩
 |cons r rs ih=>
  intro gs h hv
  simp only[resL]at h
  split at h
  ·rename_i g gs' h1 h2
   cases h
   obtain ⟨v,r1,r2⟩:=resOne_sound hT hr h1
   obtain ⟨vs,s1,s2,s3⟩:=ih gs' h2 hv.2
   refine ⟨v::vs,?_,by simp[s2],fun j g' u hg hu=> ?_⟩
   ·simp only[List.mapM_cons,Sem.run_bind]
    rw[r1]
    simp only[Result.andThen_ok,s1,Sem.run_pure]
   ·match j with
    |0=>simp at hg hu;subst hg;subst hu;exact viewG_sound hr.rel hv.1 r2
    |j+1=>exact s3 j g' u (by simpa using hg) (by simpa using hu)
  ·cases h
theorem ret_ok [Laid] {P:Program} {T:Tab} (hT:TabOK P T) {fn:Func} {σ:St} {gs:List G} {g:G} (h:resL T σ fn.results.toList=some gs) (hv:views σ.H gs) (he:Ent (tupG (gs.map fun g=>(viewG σ.H g).2)) g):RetOK P fn σ g:=by
 intro ν F a w nt p hr
 obtain ⟨vs,r1,r2,r3⟩:=resL_sound hT hr fn.results.toList gs h hv
 have hm:(fn.results.mapM (resSem a.tmps)).run P w= .ok vs.toArray w:=by
  rw[Array.mapM_eq_mapM_toList,Sem.run_map,r1];rfl
 refine ⟨frzAll ν F σ.H,if h:vs.toArray.size=1 then vs.toArray[0]else .tuple vs.toArray,?_,he _ _ _ _ ?_,frzAll_keep,fun b o ho=> ?_,fun b o ho=> ?_⟩
 ·rw[results_eq]
  simp only[Sem.run_bind,hm]
  rfl
 ·match gs,r2,r3 with
  | [g],r2,r3=>
    have hl:vs.toArray.size=1:=by simpa using r2
    rw[dif_pos hl]
    exact r3 0 g _ rfl (by rw[List.getElem?_eq_getElem (show 0<vs.length by simp at hl;omega)];simp)
  | [],r2,r3=>
    have hl:¬vs.toArray.size=1:=by simp[r2]
    rw[dif_neg hl]
    exact .tup _ _ (by simp[r2]) (fun j g u h=>(by simp at h))
  |g1::g2::gs,r2,r3=>
   have hl:¬vs.toArray.size=1:=by simp[r2]
   rw[dif_neg hl]
   refine .tup _ _ (by simp[r2]) (fun j g u hg hu=> ?_)
   have hg:((g1::g2::gs).map fun g=>(viewG σ.H g).2)[j]? =some g:=hg
   rw[List.getElem?_map]at hg
   cases hj:(g1::g2::gs)[j]? with
   |none=>rw[hj]at hg;cases hg
   |some g0=>
    rw[hj]at hg;simp only[Option.map_some]at hg;injection hg with hg;subst hg
    exact r3 j g0 u hj (by simpa using hu)
 ·rcases ho with h|⟨i,k,α,ty,es,df,cs,xs,fz,h1,h2,h3⟩
  ·exact .inl h
  ·exact .inr ⟨i,k,by rw[h1];rfl,h2⟩
 ·rcases ho with h|⟨i,k,α,ty,es,df,cs,xs,fz,h1,h2,h3⟩
  ·exact hr.rel.old b o h
  ·rcases hr.rel.blk i _ h1 with ⟨e1,_⟩|⟨r,q,arr,e,k1,_,k2,k3,_⟩
   ·rw[h2]at e1;cases e1
   ·rw[h2]at e;injection e with e;injection e with e1 e2;subst e1
    rw[cell_at k1]
    have:o<arr.size:=by rw[k2];exact Nat.lt_of_lt_of_le h3 (Nat.mul_le_mul_right es k3)
    simp[this]
end Go.Gh
namespace Go.Gh
open Go Go.RowKit Go.MapKept
set_option linter.unusedVariables false
theorem ba_beq (a b:ByteArray):(a==b)=decide (a=b):=by
 cases a with|mk x=>cases b with|mk y=>
 show (x==y)=_
 by_cases h:x=y
 ·subst h;simp
 ·rw[decide_eq_false (fun e=>h (by injection e))];exact beq_eq_false_iff_ne.2 h
def keySame:Value→Value→Option Bool
 | .int k a,.int k' b=>bif kindEq k k' then some (decide (a=b))else none
 | .string a,.string b=>some (decide (a=b))
 |_,_=>none
def mget (k:Value):List (Value×Value)→Option (Option Value)
 | []=>some none
 |(k',v)::l=>match keySame k k' with
  |some true=>some (some v)
  |some false=>mget k l
  |none=>none
def mput (k v:Value):List (Value×Value)→Option (List (Value×Value))
 | []=>some [(k,v)]
 |(k',v')::l=>match keySame k k' with
  |some true=>some ((k,v)::l)
  |some false=>match mput k v l with
   |some l'=>some ((k',v')::l')
   |none=>none
  |none=>none
def keyFit:TypeDesc→Value→Bool
 | .int q,.int q' _=>kindEq q q'
 | .string,.string _=>true
 |_,_=>false
theorem keyFit_is {d:TypeDesc} {k:Value} (h:keyFit d k=true):IsKey d k:=by
 unfold keyFit at h
 split at h
 ·exact (kindEq_spec h).symm
 ·trivial
 ·cases h
theorem keySame_now {d:TypeDesc} {k k':Value} {b:Bool} (h:keyFit d k=true) (hs:keySame k k'=some b):Instr.sameNow d k k'=some b:=by
 unfold keySame at hs
 split at hs
 ·rename_i q a q' a'
  cases hk:kindEq q q' with
  |false=>rw[hk]at hs;cases hs
  |true=>
   rw[hk]at hs
   have:=kindEq_spec hk
   subst this
   cases d<;>simp only[keyFit]at h<;>first|cases h|skip
   simp only[Instr.sameNow,if_true,←hs,cond_true,int_beq]
 ·cases d<;>simp only[keyFit]at h<;>first|cases h|skip
  cases hs
  simp only[Instr.sameNow]
  rw[ba_beq]
 ·cases hs
theorem mget_now {d:TypeDesc} {k:Value} (h:keyFit d k=true):∀(es:List MapEntry) (i:Nat) (r:Option Value),mget k (es.map fun x=>(x.key,x.val))=some r→∃a,Instr.findNow d k es i=some a∧a.map (·.2)=r:=by
 intro es
 induction es with
 |nil=>intro i r hr;cases hr;exact ⟨none,rfl,rfl⟩
 |cons e es ih=>
  intro i r hr
  simp only[List.map_cons,mget]at hr
  split at hr
  ·rename_i hs;cases hr;exact ⟨some (i,e.val),by simp only[Instr.findNow,keySame_now h hs],rfl⟩
  ·rename_i hs
   obtain ⟨a,h1,h2⟩:=ih (i+1) r hr
   exact ⟨a,by simp only[Instr.findNow,keySame_now h hs];exact h1,h2⟩
  ·cases hr
theorem sameBits_key {d:TypeDesc} {k k':Value} (h:keyFit d k=true) (hs:keySame k k'=some true) (n:Nat):Instr.sameBits n k' k=true:=by
 unfold keySame at hs
 split at hs
 ·rename_i q a q' a'
  cases hk:kindEq q q' with
  |false=>rw[hk]at hs;cases hs
  |true=>
   rw[hk]at hs
   have:=kindEq_spec hk
   subst this
   simp only[cond_true,Option.some.injEq,decide_eq_true_eq]at hs
   subst hs
   cases n<;>simp[Instr.sameBits]
 ·simp only[Option.some.injEq,decide_eq_true_eq]at hs
  subst hs
  cases n<;>simp[Instr.sameBits,ba_beq]
 ·cases hs
theorem mput_now {d:TypeDesc} {k v:Value} (h:keyFit d k=true):∀(es:List MapEntry) (i:Nat) (L:List (Value×Value)),mput k v (es.map fun x=>(x.key,x.val))=some L→
 (Instr.findNow d k es i=some none∧L=es.map (fun x=>(x.key,x.val))++ [(k,v)])∨∃j e,Instr.findNow d k es i=some (some (i+j,e.val))∧es[j]? =some e∧keySame k e.key=some true∧L=(es.modify j fun x=> {x with key:=k,val:=v}).map fun x=>(x.key,x.val):=by
 intro es
 induction es with
 |nil=>intro i L hr;cases hr;exact .inl ⟨rfl,rfl⟩
 |cons e es ih=>
  intro i L hr
  simp only[List.map_cons,mput]at hr
  split at hr
  ·rename_i hs;cases hr
   exact .inr ⟨0,e,by simp only[Instr.findNow,keySame_now h hs,Nat.add_zero],rfl,hs,by simp⟩
  ·rename_i hs
   split at hr
   ·rename_i L' hL
    cases hr
    rcases ih (i+1) L' hL with ⟨h1,h2⟩|⟨j,x,h1,h2,h3,h4⟩
    ·exact .inl ⟨by simp only[Instr.findNow,keySame_now h hs];exact h1,by rw[h2];rfl⟩
    ·exact .inr ⟨j+1,x,by simp only[Instr.findNow,keySame_now h hs];rw[h1,show i+1+j=i+(j+1)by omega],by simpa using h2,h3,by rw[h4];simp⟩
   ·cases hr
  ·cases hr
theorem VR.mp_inv {ν:Nu} {F:Fz} {w:World} {b:Nat} {v:Value} (h:VR ν F w (.mp b) v):∃r k,ν b=some (r,k)∧v= .map (some r):=by
 cases h with
 |mp b r k h=>exact ⟨r,k,h,rfl⟩
theorem VR.sc_inv {ν:Nu} {F:Fz} {w:World} {u v:Value} (h:VR ν F w (.d (.sc u)) v):v=u:=by
 cases h with
 |d h=>cases h;rfl
section
variable {P:Program} {T:Tab} {o:Oper} {ρ:Operand→G} {H:Hp}
theorem lop_makeMap [Laid] {t:TypeId} (ho:o.op= .makeMap t none) (nx:Nat):LOp P o ρ H {g:= .mp nx,upd:=[(nx,some (.mp []))],new:=[nx]} :=by
 intro H' hf hn
 refine gop_val fun ν F w a hv hr hnn=> ?_
 have h1:ν nx=none:=hnn nx (by simp)
 have h2:H' nx=none:=hn nx (by simp)
 obtain ⟨r1,e1⟩:=hr.add h1 h2 (.map #[] 0) (k:=0) (b:= .mp []) ⟨w.heap.size,0,#[],0,rfl,heap_alloc_new w _,rfl,⟨fun x hx=>(by cases hx),List.nodup_nil,fun x hx=>(by cases hx)⟩,fun o ho=>by have:=hr.old_lt ho;omega⟩
 refine ⟨.map (some w.heap.size),w.alloc (.map #[] 0),addNu ν nx w.heap.size 0,F,?_,.mp nx _ 0 (addNu_same _ _ _ _),r1,More.add h1,fun i hi=> ?_,e1⟩
 ·simp only[execOp,ho,Option.map_none,Sem.run_bind,run_makeMap,Result.andThen_ok,Sem.run_pure]
 ·by_cases e:i=nx
  ·simp[e]
  ·exact absurd (addNu_other ν e) hi
def mapDesc:TypeDesc→Option (TypeId×TypeId)
 | .map k e=>some (k,e)
 |_=>none
def lookP (k:Value) (L:List (Value×Value)) (z v:Value) (ok:Bool):Prop:=(ok=true∧mget k L=some (some v))∨(ok=false∧v=z∧mget k L=some none)
theorem lop_lookup [Laid] {t:TypeId} {x y:Operand} {c:Bool} (hT:TabOK P T) (ho:o.op= .lookup t x y c) {e ke ee:TyE} {kt et:TypeId} (te:tyAt T t=some e) (hd:mapDesc e.desc=some (kt,et)) (tk:tyAt T kt=some ke) (tee:tyAt T et=some ee) {b:Nat} {k v:Value} {L:List (Value×Value)} {ok:Bool}
 (hx:ρ x= .mp b) (hy:ρ y= .d (.sc k)) (hH:H b=some (.mp L)) (hk:keyFit ke.desc k=true) (h1:v.oneCell'=true) (hp:lookP k L ee.zero v ok):
 LOp P o ρ H {g:=bif c then .tup [.d (.sc v),.d (.sc (.bool ok))]else .d (.sc v),fp:=[b]} :=by
 have hdd:e.desc= .map kt et:=by
  unfold mapDesc at hd;split at hd
  ·rename_i a b' he;cases hd;exact he
  ·cases hd
 refine lop_pure fun H' hf ν F w a hv hr=> ?_
 have hH':=(hf b (by simp)).trans hH
 obtain ⟨r,q,es,cl,e1,e2,e3,e4,e5⟩:=hr.blk b _ hH'
 have vx:=hv x (by simp[ho,Op.operands])
 have vy:=hv y (by simp[ho,Op.operands])
 rw[hx]at vx
 rw[hy]at vy
 obtain ⟨r',k',f1,f2⟩:=vx.mp_inv
 rw[e1]at f1;injection f1 with f1;injection f1 with f1 _;subst f1
 have vy:=vy.sc_inv
 have hu:P.underlying t=some (.map kt et):=by rw[(hT _ _ te).1,hdd]
 have huk:P.underlying kt=some ke.desc:=(hT _ _ tk).1
 have hz:=(hT _ _ tee).zeroV w
 obtain ⟨f,hfnd,hfr⟩:∃f,Instr.findNow ke.desc k es.toList 0=some f∧f.map (·.2)=(bif ok then some v else none):=by
  rcases hp with ⟨p1,p2⟩|⟨p1,p2,p3⟩
  ·rw[←e3]at p2;obtain ⟨f,q1,q2⟩:=mget_now hk es.toList 0 _ p2;exact ⟨f,q1,by rw[q2,p1];rfl⟩
  ·rw[←e3]at p3;obtain ⟨f,q1,q2⟩:=mget_now hk es.toList 0 _ p3;exact ⟨f,q1,by rw[q2,p1];rfl⟩
 have hrun:(Instr.lookup t (a.eval x) (a.eval y) c).run P w= .ok (bif c then .tuple #[v,.bool ok]else v) w:=by
  rw[f2,vy]
  simp only[Instr.lookup,Sem.run_bind,run_underlying hu,Result.andThen_ok,MapKept.run_getObj_map e2,Sem.run_pure,MapKept.run_checkKey huk (keyFit_is hk),MapKept.run_findKey huk hfnd]
  rcases hp with ⟨p1,p2⟩|⟨p1,p2,p3⟩
  ·subst p1
   cases f with
   |none=>cases hfr
   |some z=>obtain ⟨i,v'⟩:=z;cases hfr;cases c<;>rfl
  ·subst p1 p2
   cases f with
   |some z=>cases hfr
   |none=>cases c<;>simp[hz]
 refine ⟨bif c then .tuple #[v,.bool ok]else v,by simp only[execOp,ho,Sem.run_bind,hrun,Result.andThen_ok,Sem.run_pure],?_⟩
 cases c with
 |false=>exact .d (.sc _ h1)
 |true=>
  refine .tup _ _ rfl fun j g u ha hb=> ?_
  match j,ha,hb with
  |0,ha,hb=>simp at ha hb;subst ha hb;exact .d (.sc _ h1)
  |1,ha,hb=>simp at ha hb;subst ha hb;exact .d (.sc _ rfl)
  |j+2,ha,hb=>simp at ha
theorem lop_mapUpdate [Laid] {t:TypeId} {x y z:Operand} (hT:TabOK P T) (ho:o.op= .mapUpdate t x y z∨o.op= .insert t x y z) {e ke:TyE} {kt et:TypeId} (te:tyAt T t=some e) (hd:mapDesc e.desc=some (kt,et)) (tk:tyAt T kt=some ke) {b:Nat} {k v:Value} {L L':List (Value×Value)}
 (hx:ρ x= .mp b) (hy:ρ y= .d (.sc k)) (hz:ρ z= .d (.sc v)) (hH:H b=some (.mp L)) (hk:keyFit ke.desc k=true) (hp:mput k v L=some L'):
 LOp P o ρ H {g:= .junk,upd:=[(b,some (.mp L'))],fp:=[b]} :=by
 have hdd:e.desc= .map kt et:=by
  unfold mapDesc at hd;split at hd
  ·rename_i a b' he;cases hd;exact he
  ·cases hd
 intro H' hf hn
 refine gop_skip fun ν F w a hv hr=> ?_
 have hH':=(hf b (by simp)).trans hH
 obtain ⟨r,q,es,cl,e1,e2,e3,e4,e5⟩:=hr.blk b _ hH'
 have vx:=hv x (by rcases ho with ho|ho<;>simp[ho,Op.operands])
 have vy:=hv y (by rcases ho with ho|ho<;>simp[ho,Op.operands])
 have vz:=hv z (by rcases ho with ho|ho<;>simp[ho,Op.operands])
 rw[hx]at vx
 rw[hy]at vy
 rw[hz]at vz
 obtain ⟨r',k',f1,f2⟩:=vx.mp_inv
 rw[e1]at f1;injection f1 with f1;injection f1 with f1 _;subst f1
 have vy:=vy.sc_inv
 have hv1:v.oneCell'=true:=by cases vz with|d h=>cases h;assumption
 have vz:=vz.sc_inv
 have hu:P.underlying t=some (.map kt et):=by rw[(hT _ _ te).1,hdd]
 have huk:P.underlying kt=some ke.desc:=(hT _ _ tk).1
 rw[←e3]at hp
 have hL':∀es':Array MapEntry,es'.toList.map (fun x=>(x.key,x.val))=L'→(∀x,x∈es'.toList→x.val.oneCell'=true)→∀cl',Born es' cl'→Rel ν F {w with heap:=w.heap.setIfInBounds r (.map es' cl')} (look [(b,some (.mp L'))] H')∧Evo ν F w H' ν F {w with heap:=w.heap.setIfInBounds r (.map es' cl')} (look [(b,some (.mp L'))] H'):=fun es' h1 h2 cl' hb=>by
  have hs:=heap_set (o':=Obj.map es' cl') e2
  refine hr.put hH' e1 (fun r' hne=>hs.2 r' hne) (by simp) (fun o ho=>absurd ho (e5 o)) rfl rfl rfl ⟨r,q,es',cl',rfl,hs.1,h1,⟨fun x hx=> ?_,hb⟩,e5⟩ (fun o ho=>absurd ho (e5 o))
  rw[←h1]at hx
  obtain ⟨y,hy1,rfl⟩:=List.mem_map.1 hx
  exact h2 y hy1
 have hone:∀x,x∈es.toList→x.val.oneCell'=true:=fun x hx=>e4.1 (x.key,x.val) (by rw[←e3];exact List.mem_map.2 ⟨x,hx,rfl⟩)
 rcases mput_now hk es.toList 0 L' hp with ⟨h1,h2⟩|⟨j,x0,h1,h2,h3,h4⟩
 ·obtain ⟨g1,g2⟩:=hL' (es.push {key:=k,val:=v,born:=cl}) (by rw[h2];simp) (fun x hx=>by
   rw[Array.toList_push]at hx
   rcases List.mem_append.1 hx with h|h
   ·exact hone x h
   ·rw[List.mem_singleton.1 h];exact hv1) (cl+1) ⟨by
    rw[Array.toList_push,List.map_append,List.nodup_append]
    refine ⟨e4.2.1,by simp,fun x hx y hy e=> ?_⟩
    obtain ⟨z,hz,rfl⟩:=List.mem_map.1 hx
    have:=e4.2.2 z hz
    simp only[List.map_cons,List.map_nil,List.mem_singleton]at hy
    omega,fun x hx=>by
    rw[Array.toList_push]at hx
    rcases List.mem_append.1 hx with h|h
    ·have:=e4.2.2 x h;omega
    ·rw[List.mem_singleton.1 h];show cl<cl+1;omega⟩
  refine ⟨_,?_,g1,g2⟩
  rcases ho with ho|ho<;>simp only[execOp,ho,Instr.mapUpdate,f2,vy,vz,Sem.run_bind,run_underlying hu,Result.andThen_ok,MapKept.run_getObj_map e2,Sem.run_pure,MapKept.run_checkKey huk (keyFit_is hk),MapKept.run_findKey huk h1,MapKept.run_setObj_map _ e2]
 ·have hj:es[j]? =some x0:=by simpa using h2
  obtain ⟨g1,g2⟩:=hL' (es.modify j fun x=> {x with key:=k,val:=v}) (by rw[h4,Array.toList_modify]) (fun x hx=>by
   rw[Array.toList_modify]at hx
   obtain ⟨i,hi,rfl⟩:=List.mem_iff_getElem.1 hx
   rw[List.getElem_modify]
   split
   ·exact hv1
   ·exact hone _ (List.getElem_mem _)) cl ⟨by
    rw[Array.toList_modify]
    have:(es.toList.modify j fun x=> {x with key:=k,val:=v}).map (·.born)=es.toList.map (·.born):=by
     apply List.ext_getElem?
     intro i
     simp only[List.getElem?_map,List.getElem?_modify]
     cases es.toList[i]? with
     |none=>rfl
     |some y=>by_cases e:j=i<;>simp[e]
    rw[this];exact e4.2.1,fun x hx=>by
    rw[Array.toList_modify]at hx
    obtain ⟨i,hi,rfl⟩:=List.mem_iff_getElem.1 hx
    rw[List.getElem_modify]
    rw[List.length_modify]at hi
    split
    ·exact e4.2.2 es.toList[i] (List.getElem_mem hi)
    ·exact e4.2.2 _ (List.getElem_mem hi)⟩
  refine ⟨_,?_,g1,g2⟩
  rcases ho with ho|ho<;>simp only[execOp,ho,Instr.mapUpdate,f2,vy,vz,Sem.run_bind,run_underlying hu,Result.andThen_ok,MapKept.run_getObj_map e2,Sem.run_pure,MapKept.run_checkKey huk (keyFit_is hk),MapKept.run_findKey huk h1,Nat.zero_add,hj,Option.map_some,Option.getD_some,Instr.keyThatStays,sameBits_key hk h3,if_true,MapKept.run_setObj_map _ e2]
theorem lop_makeFunc [Laid] {f:Fn} {x y:Array Operand} (ho:o.op= .makeFunc f x y):LOp P o ρ H {g:= .fn f (x.toList.map ρ) (y.toList.map ρ)} :=by
 refine lop_pure fun H' _ ν F w a hv hr=>⟨.func f (x.map a.eval) (y.map a.eval),by simp only[execOp,ho,Instr.makeFunc,Sem.run_bind,Sem.run_pure,Result.andThen_ok],.fn _ _ _ _ _ (by simp) (by simp) (fun j g u hg hu=> ?_) (fun j g u hg hu=> ?_)⟩
 ·rw[List.getElem?_map]at hg
  rw[Array.getElem?_map]at hu
  cases hj:x[j]? with
  |none=>rw[hj]at hu;cases hu
  |some z=>
   have hj':x.toList[j]? =some z:=by simpa using hj
   rw[hj']at hg;rw[hj]at hu
   cases hg;cases hu
   exact hv z (by simp only[ho,Op.operands];simp;left;exact Array.mem_of_getElem? hj)
 ·rw[List.getElem?_map]at hg
  rw[Array.getElem?_map]at hu
  cases hj:y[j]? with
  |none=>rw[hj]at hu;cases hu
  |some z=>
   have hj':y.toList[j]? =some z:=by simpa using hj
   rw[hj']at hg;rw[hj]at hu
   cases hg;cases hu
   exact hv z (by simp only[ho,Op.operands];simp;right;exact Array.mem_of_getElem? hj)
theorem lop_min [Laid] {x y:Operand} {tys:Array TypeId} (ho:o.op= .call {callee:= .builtin .min,args:= #[x,y],argTypes:=tys}) {k k':IntKind} {a b:Int} (hx:ρ x= .d (.sc (.int k a))) (hy:ρ y= .d (.sc (.int k' b))) (hk:kindEq k k'=true):LOp P o ρ H {g:= .d (.sc (.int k (if b<a then b else a)))} :=by
 have:=kindEq_spec hk
 subst this
 refine lop_pure fun H' _ ν F w e hv hr=>⟨_,?_,.d (.sc _ rfl)⟩
 have vx:=(hx▸hv x (by simp[ho,Op.operands,Call.operands])).sc_inv
 have vy:=(hy▸hv y (by simp[ho,Op.operands,Call.operands])).sc_inv
 refine exec_builtin ho e w w _ Builtin.min_ (fun _ _=>rfl) ?_
 simp[Builtin.min_,Builtin.min2,vx,vy]
theorem lop_max [Laid] {x y:Operand} {tys:Array TypeId} (ho:o.op= .call {callee:= .builtin .max,args:= #[x,y],argTypes:=tys}) {k k':IntKind} {a b:Int} (hx:ρ x= .d (.sc (.int k a))) (hy:ρ y= .d (.sc (.int k' b))) (hk:kindEq k k'=true):LOp P o ρ H {g:= .d (.sc (.int k (if a<b then b else a)))} :=by
 have:=kindEq_spec hk
 subst this
 refine lop_pure fun H' _ ν F w e hv hr=>⟨_,?_,.d (.sc _ rfl)⟩
 have vx:=(hx▸hv x (by simp[ho,Op.operands,Call.operands])).sc_inv
 have vy:=(hy▸hv y (by simp[ho,Op.operands,Call.operands])).sc_inv
 refine exec_builtin ho e w w _ Builtin.max_ (fun _ _=>rfl) ?_
 simp[Builtin.max_,Builtin.max2,vx,vy]
end
end Go.Gh
namespace Go.Gh
open Go Go.RowKit
set_option linter.unusedVariables false
def cellV:List G→Option (List Value)
 | []=>some []
 | .d (.sc v)::l=>match cellV l with
   |some r=>bif v.oneCell' then some (v::r)else none
   |none=>none
 |_=>none
theorem cellV_iff {ν:Nu} {F:Fz} {w:World} :∀ {cs:List G} {r:List Value},cellV cs=some r→r.length=cs.length∧(∀u,u∈r→u.oneCell'=true)∧(∀(j:Nat) g u,cs[j]? =some g→r[j]? =some u→VR ν F w g u)∧
 ∀us:List Value,us.length=cs.length→(∀(j:Nat) g u,cs[j]? =some g→us[j]? =some u→VR ν F w g u)→us=r:=by
 intro cs
 induction cs with
 |nil=>intro r h;cases h;exact ⟨rfl,fun u hu=>(by cases hu),fun j g u a=>(by simp at a),fun us hl _=>List.eq_nil_of_length_eq_zero hl⟩
 |cons g cs ih=>
  intro r h
  unfold cellV at h
  split at h
  ·rename_i e;cases e
  ·rename_i v l e
   cases e
   split at h
   ·rename_i r' hr
    obtain ⟨h1,h2,h3,h4⟩:=ih hr
    cases hv:v.oneCell' with
    |false=>rw[hv]at h;cases h
    |true=>
     rw[hv]at h
     cases h
     refine ⟨by simp[h1],fun u hu=> ?_,fun j g u a b=> ?_,fun us hl ha=> ?_⟩
     ·rcases List.mem_cons.1 hu with rfl|hu
      ·exact hv
      ·exact h2 u hu
     ·cases j with
      |zero=>simp at a b;subst a;subst b;exact .d (.sc _ hv)
      |succ j=>exact h3 j g u (by simpa using a) (by simpa using b)
     ·cases us with
      |nil=>simp at hl
      |cons u us=>
       rw[h4 us (by simpa using hl) (fun j g u a b=>ha (j+1) g u (by simpa using a) (by simpa using b))]
       have:=ha 0 _ u rfl rfl
       cases this with
       |d hd=>cases hd;rfl
   ·cases h
  ·cases h
def EqC (P:Program) (t:TypeId) (us vs:List Value) (b:Bool):Prop:=
 (∀w,(Op.equalIn 10000 t (.agg us.toArray) (.agg vs.toArray)).run P w= .ok b w)∧P.eqGuardType P.depth t=false
def EqF (P:Program) (fs:List Field) (us vs:Array Value) (b:Bool):Prop:=∀w,(Op.eqFields 9999 us vs fs).run P w= .ok b w
section
variable {P:Program} {fs:List Field} {f:Field} {us vs:Array Value} {b:Bool}
theorem part_one {d:TypeDesc} (ht:P.underlying f.type=some d) (ha:aggD d=false) {u:Value} (h:us[f.offset]? =some u) (w:World):(part f.type us f.offset).run P w= .ok u w:=by
 have hA:(isAgg f.type).run P w= .ok false w:=by
  simp only[isAgg,Sem.run_bind,run_underlying ht,Result.andThen_ok]
  cases d<;>first|rfl|cases ha
 simp only[part,Sem.run_bind,hA,Result.andThen_ok,h]
 rfl
theorem EqF.nil:EqF P [] us vs true:=fun _=>rfl
theorem EqF.step {d:TypeDesc} (hn:f.name≠ "_") (ht:P.underlying f.type=some d) (ha:aggD d=false) {u v:Value} (hu:us[f.offset]? =some u) (hv:vs[f.offset]? =some v) {b1:Bool} (h1:∀w,(Op.equalIn 9999 f.type u v).run P w= .ok b1 w) (h:EqF P fs us vs b):EqF P (f::fs) us vs (b1&&b):=fun w=>by
 simp only[Op.eqFields,if_pos hn,Sem.run_bind,part_one ht ha hu w,part_one ht ha hv w,Result.andThen_ok,h1 w]
 cases b1 with
 |true=>exact h w
 |false=>rfl
theorem EqF.int {T:Tab} {e:TyE} {k q:IntKind} {a c:Int} (hT:TabOK P T) (te:tyAt T f.type=some e) (hd:e.desc= .int k) (hu:us[f.offset]? =some (.int q a)) (hv:vs[f.offset]? =some (.int q c)) (h:EqF P fs us vs b) (hn:f.name≠ "_" :=by decide):EqF P (f::fs) us vs (decide (a=c)&&b):=
 have ht:=hd▸(hT _ _ te).1
 .step hn ht rfl hu hv (fun w=>by rw[run_equalIn_int w 9998 f.type q k a c ht,int_beq]) h
theorem EqF.str {T:Tab} {e:TyE} {a c:ByteArray} (hT:TabOK P T) (te:tyAt T f.type=some e) (hd:e.desc= .string) (hu:us[f.offset]? =some (.string a)) (hv:vs[f.offset]? =some (.string c)) (h:EqF P fs us vs b) (hn:f.name≠ "_" :=by decide):EqF P (f::fs) us vs (decide (a=c)&&b):=
 have ht:=hd▸(hT _ _ te).1
 .step hn ht rfl hu hv (fun w=>by rw[run_equalIn_string w 9998 f.type a c ht,str_dec]) h
theorem EqF.bool {T:Tab} {e:TyE} {a c:Bool} (hT:TabOK P T) (te:tyAt T f.type=some e) (hd:e.desc= .bool) (hu:us[f.offset]? =some (.bool a)) (hv:vs[f.offset]? =some (.bool c)) (h:EqF P fs us vs b) (hn:f.name≠ "_" :=by decide):EqF P (f::fs) us vs ((a==c)&&b):=
 have ht:=hd▸(hT _ _ te).1
 .step hn ht rfl hu hv (fun w=>run_equalIn_bool' w 9998 f.type a c ht) h
theorem EqC.of {T:Tab} {e:TyE} {t:TypeId} {fs:Array Field} {us vs:List Value} (hT:TabOK P T) (te:tyAt T t=some e) (hd:e.desc= .struct fs) (hs:P.stoodInHeld t=false) (hg:P.eqGuardType P.depth t=false) (h:EqF P fs.toList us.toArray vs.toArray b):EqC P t us vs b:=by
 have hu:=hd▸(hT _ _ te).1
 refine ⟨fun w=> ?_,hg⟩
 have hf:P.fieldsOf t=fs:=by simp only[Program.fieldsOf,hu]
 rw[run_equalIn_agg w 9999 t us.toArray vs.toArray (by rw[hf];exact hu) hs,hf]
 exact h w
end
def eqlB:BinOp→Bool→Option Bool
 | .eql,b=>some b
 | .neq,b=>some (!b)
 |_,_=>none
theorem lop_eq [Laid] {P:Program} {o:Oper} {ρ:Operand→G} {H:Hp} {op:BinOp} {t ty:TypeId} {x y:Operand} (ho:o.op= .binOp op t x y ty) {gs hs:List G} {us vs:List Value} {b b':Bool} (hx:ρ x= .agg gs) (hy:ρ y= .agg hs) (h1:cellV gs=some us) (h2:cellV hs=some vs) (he:EqC P t us vs b) (hb:eqlB op b=some b'):LOp P o ρ H {g:= .d (.sc (.bool b'))} :=by
 refine lop_pure fun H' _ ν F w a hv hr=>⟨.bool b',?_,.d (.sc _ rfl)⟩
 have vx:=hv x (by simp[ho,Op.operands])
 have vy:=hv y (by simp[ho,Op.operands])
 rw[hx]at vx
 rw[hy]at vy
 have ex:a.eval x= .agg us.toArray:=by
  generalize a.eval x=u at vx
  cases vx with
  |agg cs' arr e1 e2 k=>
   have:=(cellV_iff (ν:=ν) (F:=F) (w:=w) h1).2.2.2 arr.toList (by simpa using e1) (fun j g u a b=>k j g u a (by simpa using b))
   rw[←this]
 have ey:a.eval y= .agg vs.toArray:=by
  generalize a.eval y=u at vy
  cases vy with
  |agg cs' arr e1 e2 k=>
   have:=(cellV_iff (ν:=ν) (F:=F) (w:=w) h2).2.2.2 arr.toList (by simpa using e1) (fun j g u a b=>k j g u a (by simpa using b))
   rw[←this]
 have hg:=run_eqGuard_agg w op t x y us.toArray vs.toArray he.2
 cases op<;>simp only[eqlB,Option.some.injEq,reduceCtorEq]at hb
 ·subst hb
  have hr:=run_eql_struct (P:=P) w t us.toArray vs.toArray
  rw[he.1 w]at hr
  simp only[execOp,ho,ex,ey,Sem.run_bind,hg,Result.andThen_ok,hr,Sem.run_pure]
 ·subst hb
  have hr:=run_neq_struct (P:=P) w t us.toArray vs.toArray
  rw[he.1 w]at hr
  simp only[execOp,ho,ex,ey,Sem.run_bind,hg,Result.andThen_ok,hr,Sem.run_pure]
end Go.Gh
namespace Go.Gh
open Go Go.RowKit
set_option linter.unusedVariables false
def byteL (s:ByteArray):List (List D):=s.data.toList.map fun c=>[.sc (.int .u8 (c.toNat:Int))]
theorem str_of_nums (s:ByteArray):strOfNums (s.data.toList.map fun c=>(c.toNat:Int))=s:=by
 unfold strOfNums
 rw[List.map_map]
 have:(List.map ((fun n:Int=>UInt8.ofNat n.toNat)∘fun c:UInt8=>(c.toNat:Int)) s.data.toList)=s.data.toList:=by
  conv=>rhs;rw[←List.map_id s.data.toList]
  refine List.map_congr_left fun c _=> ?_
  simp
 rw[this]
section
variable {P:Program} {T:Tab} {o:Oper} {ρ:Operand→G} {H:Hp}
theorem lop_bytes [Laid] {src dst:TypeId} {x:Operand} (hT:TabOK P T) (ho:o.op= .convert src dst x) {e1 ee e2:TyE} {el:TypeId} (t1:tyAt T src=some e1) (d1:e1.desc= .slice el) (t0:tyAt T el=some ee) (d0:ee.desc= .int .u8) (t2:tyAt T dst=some e2) (d2:e2.desc= .string)
 {prs:Prop} {Ls:List (List D)} {m:Nat} {fp:List Nat} (hs:srcL (ρ x) H=some (prs,Ls,m,fp)) (hp:prs) {s:ByteArray} (he:Ls=byteL s):LOp P o ρ H {g:= .d (.sc (.string s)),fp:=fp} :=by
 have k1:=hT _ _ t1
 have k0:=hT _ _ t0
 have k2:=hT _ _ t2
 refine lop_pure fun H' hf ν F w a hv hr=>⟨.string s,?_,.d (.sc _ rfl)⟩
 have hs':srcL (ρ x) H'=some (prs,Ls,m,fp):=by
  unfold srcL at hs⊢
  split at hs
  ·exact hs
  ·exact hs
  ·rename_i b es1 i1 n1 hρ
   split at hs
   ·rename_i β ty' es' df' cs' xs fz' hH
    simp only[Option.some.injEq,Prod.mk.injEq]at hs
    have:H' b=H b:=hf b (by simp[←hs.2.2.2])
    rw[this,hH]
    simp only[Option.some.injEq,Prod.mk.injEq]
    exact hs
   ·cases hs
  ·cases hs
 obtain ⟨A,c,vs,hve,hfr,hrd⟩:=srcL_sound hs' hp hr (hv x (by simp[ho,Op.operands])) 1 (by omega) (fun i e he'=>by
  subst he
  simp only[byteL,List.getElem?_map]at he'
  cases hx:s.data.toList[i]? with
  |none=>rw[hx]at he';cases he'
  |some y=>rw[hx]at he';cases he';rfl)
 have hm:m=Ls.length:=by
  have h1:=hfr.len
  have h2:=hrd.1
  omega
 have hlen:(s.data.toList.map fun c=>(c.toNat:Int)).length=m:=by rw[hm,he];simp[byteL]
 have hnum:vs=(s.data.toList.map fun c=>(c.toNat:Int)).map (Value.int .u8):=by
  apply List.ext_getElem?
  intro i
  by_cases hi:i<m
  ·have hi':i<s.data.toList.length:=by simpa using (show i<(s.data.toList.map fun c=>(c.toNat:Int)).length by omega)
   have hiv:i<vs.length:=by have:=hrd.1;omega
   have h1:Ls[i]? =some [.sc (.int .u8 (s.data.toList[i].toNat:Int))]:=by rw[he];simp[byteL,List.getElem?_eq_getElem hi']
   have h2:vs[i*1+0]? =some vs[i]:=by simp[List.getElem?_eq_getElem hiv]
   have h3:=hfr.val i _ 0 (.sc (.int .u8 (s.data.toList[i].toNat:Int))) _ h1 rfl h2
   cases h4:vs[i]<;>rw[h4]at h3<;>cases h3
   rw[List.getElem?_eq_getElem hiv,h4]
   simp[List.getElem?_eq_getElem hi']
  ·have e1:vs.length≤i:=by have:=hrd.1;omega
   rw[List.getElem?_eq_none e1,List.getElem?_eq_none (by rw[List.length_map];omega)]
 have key:(convert src dst (a.eval x)).run P w= .ok (.string s) w:=by
  rw[hve]
  rcases A with _|ad
  ·have hm0:m=0:=by
    rcases Nat.eq_zero_or_pos m with h0|h0
    ·exact h0
    ·obtain ⟨ad,h,_⟩:=hrd.2 h0;cases h
   have hs0:s=ByteArray.empty:=by
    have:s.data.toList= []:=List.eq_nil_of_length_eq_zero (by simp only[List.length_map]at hlen;omega)
    cases s with|mk d=>
    have:d= #[]:=by simpa using this
    rw[this];rfl
   rw[run_convert_bytes_nil w src el (by rw[k1.1,d1]) (by rw[k0.1,d0]) m c dst (by rw[k2.1,d2]),hs0]
  ·rw[run_convert_bytes_string w src dst el _ m c (by rw[k1.1,d1]) (by rw[k0.1,d0]) (by rw[k2.1,d2]),run_bytesToString w ad m c _ (by
    have:=run_loadCells_list (P:=P) w ad vs (fun j v hj=>by
     obtain ⟨ad',h1,_,h2⟩:=hrd.2 (by
      have:=(List.getElem?_eq_some_iff.1 hj).1
      have:=hrd.1;omega)
     injection h1 with h1;subst h1
     exact h2 j v hj)
    rw[hnum]at this
    rw[List.length_map,hlen]at this
    exact this),foldl_push_bytes]
   have h:=str_of_nums s
   unfold strOfNums at h
   have e:∀X:Array UInt8,ByteArray.empty.data++X=X:=fun X=>by
    show (#[]:Array UInt8)++X=X
    simp
   rw[e,h]
 simp only[execOp,ho,Sem.run_bind,key,Result.andThen_ok,Sem.run_pure]
end
end Go.Gh
namespace Go.Gh
open Go Go.RowKit
set_option linter.unusedVariables false
theorem byteL_length (s:ByteArray):(byteL s).length=s.size:=by
 show (s.data.toList.map _).length=s.data.size
 simp
section
variable {P:Program} {T:Tab} {o:Oper} {ρ:Operand→G} {H:Hp}
theorem lop_s2b [Laid] {src dst:TypeId} {x:Operand} (hT:TabOK P T) (ho:o.op= .convert src dst x) {e1 ee e2:TyE} {el:TypeId} (t1:tyAt T src=some e1) (d1:e1.desc= .string) (t2:tyAt T dst=some e2) (d2:e2.desc= .slice el) (t0:tyAt T el=some ee) (d0:ee.desc= .int .u8)
 {s:ByteArray} (hx:ρ x= .d (.sc (.string s))) {α:Type} {df:α} {cs:α→List D} {zs:List α} (he:rowL cs zs=byteL s):LOp P o ρ H {g:= .d (.row df cs zs)} :=by
 have k1:=hT _ _ t1
 have k0:=hT _ _ t0
 have k2:=hT _ _ t2
 intro H' _ _
 refine gop_val fun ν F w a hv hr _=> ?_
 have hxe:a.eval x= .string s:=by
  have:=hv x (by simp[ho,Op.operands])
  rw[hx]at this
  generalize a.eval x=z at this
  cases this with
  |d h=>cases h;rfl
 have hrun:=Lib.run_convert_string_bytes (P:=P) w src dst el s (d1▸k1.1) (d2▸k2.1) (d0▸k0.1)
 have hlen:zs.length=s.size:=by
  have:=congrArg List.length he
  rw[byteL_length]at this
  simpa [rowL]using this
 generalize hW:Lib.bytesWorld w el s=W at hrun
 have hblk:∀k,k<w.heap.size→W.heap[k]? =w.heap[k]? :=fun k hk=>by rw[←hW];exact Lib.bytesWorld_at_old w el s k hk
 have hcell:∀j,j<s.size→W.cell? ⟨w.heap.size,j,none⟩=some (.int .u8 ((s.data.toList.getD j 0).toNat:Int)):=fun j hj=>by rw[←hW];exact Lib.bytesWorld_cell w el s j hj
 have hsz:w.heap.size≤W.heap.size:=by rw[←hW,Lib.bytesWorld_size];omega
 have hos:W.os=w.os∧W.tape=w.tape∧W.output=w.output:=by rw[←hW];exact ⟨rfl,rfl,rfl⟩
 obtain ⟨F',hF'⟩:∃F':Fz,F'=fun b o=>F b o∨(b=w.heap.size∧o<s.size):=⟨_,rfl⟩
 have hk:Keep F w F' W:=⟨fun _ _ h=>by rw[hF'];exact .inl h,fun b o hf=>by
  have:=hr.old_lt hf
  simp only[World.cell?,hblk b this],fun b o hf=>szAt_of (hblk b (hr.old_lt hf))⟩
 have hrow:∀(i:Nat) e,zs[i]? =some e→i<s.size∧cs e= [.sc (.int .u8 ((s.data.toList.getD i 0).toNat:Int))]:=fun i e hi=>by
  have hlt:=(List.getElem?_eq_some_iff.1 hi).1
  have h1:(rowL cs zs)[i]? =some (cs e):=by simp[rowL,hi]
  rw[he]at h1
  have h2:i<s.data.toList.length:=by simpa using (show i<s.size by omega)
  simp only[byteL,List.getElem?_map,List.getElem?_eq_getElem h2,Option.map_some]at h1
  injection h1 with h1
  refine ⟨by omega,?_⟩
  rw[←h1]
  simp[List.getD_eq_getElem?_getD,List.getElem?_eq_getElem h2]
 refine ⟨.slice (some ⟨w.heap.size,0,none⟩) s.size (Go.grownCap w s.size 0 el),W,ν,F',by simp only[execOp,ho,hxe,Sem.run_bind,hrun,Result.andThen_ok,Sem.run_pure],?_,⟨hr.inj,fun i b hi=>(hr.blk i b hi).keep hk (More.refl _) (fun r k e=>hblk r (hr.mine_lt ⟨i,k,by have hi':H' i=some b:=hi;rw[hi'];rfl,e⟩)) (fun r k e o=>⟨fun ho=> ?_,fun ho=>by rw[hF'];exact .inl ho⟩),fun b o hf=> ?_,hr.glob.keep hk⟩,More.refl _,fun i hi=>absurd rfl hi,
  ⟨hk,hos.1,hos.2.1,hos.2.2,hsz,fun r h1 _=>hblk r h1,fun r h=> .inl h,fun b o h=> ?_⟩⟩
 ·rw[←hlen]
  refine .d (.row df cs zs (some ⟨w.heap.size,0,none⟩) _ w.heap.size 0 1 (fun i _=> .int .u8 ((s.data.toList.getD i 0).toNat:Int)) (fun _=>rfl) ?_ (fun e he'=> ?_) (fun i e j x a1 a2=> ?_) (fun i e j x a1 a2=> ?_) (fun i e j x a1 a2=> ?_))
  ·exact grownCap_ge _ _ _ _
  ·obtain ⟨i,hi⟩:=List.getElem?_of_mem he'
   rw[(hrow i e hi).2];rfl
  ·obtain ⟨h1,h2⟩:=hrow i e a1
   have hj:j=0:=by rw[h2]at a2;have:=(List.getElem?_eq_some_iff.1 a2).1;simp at this;omega
   subst hj
   have:=hcell i h1
   simpa using this
  ·obtain ⟨h1,h2⟩:=hrow i e a1
   have hj:j=0:=by rw[h2]at a2;have:=(List.getElem?_eq_some_iff.1 a2).1;simp at this;omega
   subst hj
   rw[hF']
   exact .inr ⟨rfl,by omega⟩
  ·obtain ⟨h1,h2⟩:=hrow i e a1
   rw[h2]at a2
   have hj:j=0:=by have:=(List.getElem?_eq_some_iff.1 a2).1;simp at this;omega
   subst hj
   cases a2
   exact .sc _ rfl
 ·rw[hF']at ho
  rcases ho with ho|ho
  ·exact ho
  ·have:=hr.mine_lt ⟨i,k,by have hi':H' i=some b:=hi;rw[hi'];rfl,e⟩
   omega
 ·rw[hF']at hf
  rcases hf with hf|⟨rfl,hf⟩
  ·rw[hk.same b o hf];exact hr.old b o hf
  ·rw[hcell o hf];rfl
 ·rw[hF']at h
  rcases h with h|h
  ·exact .inl h
  ·exact .inr (.inr (by omega))
end
end Go.Gh
namespace Go.Gh
open Go Go.RowKit
set_option linter.unusedVariables false
theorem VR.up {ν ν':Nu} {F:Fz} {w:World} {ρ:Nat→Nat} {g:G} {v:Value} (h:VR ν F w g v) (hν:∀i p,ν i=some p→ν' (ρ i)=some p):VR ν' F w (g.ren ρ) v:=by
 have get:∀ {l:List G} {j:Nat} {g:G},(G.renL ρ l)[j]? =some g→∃g0,l[j]? =some g0∧g=g0.ren ρ:=fun {l j g} h=>by
  rw[renL_map,List.getElem?_map]at h
  cases e:l[j]? with
  |none=>rw[e]at h;cases h
  |some g0=>rw[e]at h;cases h;exact ⟨g0,rfl,rfl⟩
 have len:∀l:List G,(G.renL ρ l).length=l.length:=fun l=>by rw[renL_map,List.length_map]
 induction h with
 |d h=>simp only[G.ren];exact .d h
 |ptr b es i f r k h=>simp only[G.ren];exact .ptr _ _ _ _ _ k (hν _ _ h)
 |mp b r k h=>simp only[G.ren];exact .mp _ _ k (hν _ _ h)
 |sl b es i n A c h1 h2 h3 h4=>
  simp only[G.ren]
  refine .sl _ _ _ _ _ _ (fun h=> ?_) (fun a b=> ?_) h3 (fun ha hb=>(h4 ha hb).imp id fun ⟨r,k,e,h⟩=>⟨r,k,hν _ _ e,h⟩)
  ·obtain ⟨r,k,e,h⟩:=h1 h;exact ⟨r,k,hν _ _ e,h⟩
  ·rcases h2 a b with ⟨r,k,e,h⟩|h
   ·exact .inl ⟨r,k,hν _ _ e,h⟩
   ·exact .inr h
 |ep cells b off val hw hF h=>simp only[G.ren];exact .ep _ _ _ _ hw hF h
 |fn f first captured fs cs h1 h2 _ _ i1 i2=>
  simp only[G.ren]
  refine .fn _ _ _ _ _ (by rw[len];exact h1) (by rw[len];exact h2) (fun j g u hg hu=> ?_) (fun j g u hg hu=> ?_)
  ·obtain ⟨g0,e,rfl⟩:=get hg;exact i1 j g0 u e hu
  ·obtain ⟨g0,e,rfl⟩:=get hg;exact i2 j g0 u e hu
 |agg cells cs h1 hc _ ih=>
  simp only[G.ren]
  refine .agg _ _ (by rw[len];exact h1) hc (fun j g u hg hu=> ?_)
  obtain ⟨g0,e,rfl⟩:=get hg;exact ih j g0 u e hu
 |tup vs us h1 _ ih=>
  simp only[G.ren]
  refine .tup _ _ (by rw[len];exact h1) (fun j g u hg hu=> ?_)
  obtain ⟨g0,e,rfl⟩:=get hg;exact ih j g0 u e hu
 |iface t g u _ ih=>simp only[G.ren];exact .iface _ _ _ ih
 |opt c g u _ h0 ih=>simp only[G.ren];exact .opt _ _ _ ih h0
 |ex v g _ ih=>simp only[G.ren];exact .ex _ _ ih
 |junk u=>simp only[G.ren];exact .junk _
theorem BR.up {ν ν':Nu} {F:Fz} {w:World} {ρ:Nat→Nat} {p:Option (Nat×Nat)} {b:Blk} (h:BR ν F w p b) (hν:∀i p,ν i=some p→ν' (ρ i)=some p):BR ν' F w p (b.ren ρ):=by
 cases b with
 |box cells=>
  obtain ⟨r,k,arr,T,e,h1,h2,h3,h4,h5⟩:=h
  refine ⟨r,k,arr,T,e,h1,by rw[renL_map,List.length_map];exact h2,h3,fun j g u a b=> ?_,h5⟩
  rw[renL_map,List.getElem?_map]at a
  cases e:cells[j]? with
  |none=>rw[e]at a;cases a
  |some g0=>rw[e]at a;cases a;exact (h4 j g0 u e b).up hν
 |row ty es df cs xs fz=>exact h
 |mp L=>exact h
 |tbx T vs=>exact h
def BEnt (b b':Blk):Prop:=∀(ν:Nu) (F:Fz) (w:World) (p:Option (Nat×Nat)),BR ν F w p b→BR ν F w p b'
theorem BEnt.refl (b:Blk):BEnt b b:=fun _ _ _ _ h=>h
def BEntL:List Blk→List Blk→Prop
 | [],[]=>True
 |a::l,b::l'=>BEnt a b∧BEntL l l'
 |_,_=>False
theorem BEntL.refl:∀l,BEntL l l
 | []=>trivial
 |b::l=>⟨BEnt.refl b,BEntL.refl l⟩
theorem BEntL.at_:∀ {l l':List Blk},BEntL l l'→l.length=l'.length∧∀(i:Nat) b',l'[i]? =some b'→∃b,l[i]? =some b∧BEnt b b':=by
 intro l
 induction l with
 |nil=>intro l' h;cases l' with
  |nil=>exact ⟨rfl,fun i b' e=>(by simp at e)⟩
  |cons b l'=>cases h
 |cons a l ih=>intro l' h;cases l' with
  |nil=>cases h
  |cons b l'=>
   obtain ⟨h1,h2⟩:=ih h.2
   refine ⟨by simp[h1],fun i b' e=> ?_⟩
   cases i with
   |zero=>simp at e;subst e;exact ⟨a,rfl,h.1⟩
   |succ i=>obtain ⟨b0,q1,q2⟩:=h2 i b' (by simpa using e);exact ⟨b0,by simpa using q1,q2⟩
def hpF (l:List Blk):Hp:=fun i=>l[i]?
def hpR (l:List (Option Blk)):Hp:=fun i=>(l[i]?).join
def GM [Laid] (P:Program) (f:FuncId) (args:List G) (hs:List Blk) (g:G) (hs':List (Option Blk)):Prop:=
 Body P f∧∀(ν:Nu) (F:Fz) (w:World) (vs:Array Value),Rel ν F w (hpF hs)→(∀i,hs.length≤i→ν i=none)→VRs ν F w args vs→
  Calls P f vs w fun e w'=>∃(ν':Nu) (F':Fz) (v:Value),e= .returned v∧VR ν' F' w' g v∧Rel ν' F' w' (hpR hs')∧(∀i,i<hs.length→ν' i=ν i)∧(∀i,hs'.length≤i→ν' i=none)∧Evo ν F w (hpF hs) ν' F' w' (hpR hs')
def rhoM:List Nat→Nat→Nat→Nat
 | [],nx,i=>nx+i
 |a::_,_,0=>a
 |_::l,nx,i+1=>rhoM l nx i
theorem rhoM_ge:∀ {l:List Nat} {nx i:Nat},l.length≤i→rhoM l nx i=nx+(i-l.length):=by
 intro l
 induction l with
 |nil=>intro nx i _;rfl
 |cons a l ih=>
  intro nx i h
  cases i with
  |zero=>simp at h
  |succ i=>simp only[rhoM,List.length_cons];rw[ih (by simpa using h)];omega
theorem rhoM_mem:∀ {l:List Nat} {nx i:Nat},i<l.length→l[i]? =some (rhoM l nx i):=by
 intro l
 induction l with
 |nil=>intro nx i h;simp at h
 |cons a l ih=>
  intro nx i h
  cases i with
  |zero=>rfl
  |succ i=>simp only[rhoM,List.getElem?_cons_succ];exact ih (by simpa using h)
def nodupB:List Nat→Bool
 | []=>true
 |a::l=> !(l.any fun b=>Nat.beq a b)&&nodupB l
theorem nodupB_inj:∀ {l:List Nat},nodupB l=true→∀ {i j a:Nat},l[i]? =some a→l[j]? =some a→i=j:=by
 intro l
 induction l with
 |nil=>intro _ i j a h;simp at h
 |cons x l ih=>
  intro h i j a hi hj
  simp only[nodupB,Bool.and_eq_true,Bool.not_eq_true']at h
  have hno:∀k,l[k]? =some x→False:=fun k hk=>by
   have:(l.any fun b=>Nat.beq x b)=true:=List.any_eq_true.2 ⟨x,List.mem_of_getElem? hk,Nat.beq_refl x⟩
   rw[this]at h;cases h.1
  cases i with
  |zero=>cases j with
   |zero=>rfl
   |succ j=>simp at hi hj;subst hi;exact (hno j hj).elim
  |succ i=>cases j with
   |zero=>simp at hi hj;subst hj;exact (hno i hi).elim
   |succ j=>exact congrArg (·+1) (ih h.2 (a:=a) (by simpa using hi) (by simpa using hj))
theorem rhoM_inj {l:List Nat} {nx:Nat} (hd:nodupB l=true) (hlt:∀a,a∈l→a<nx) {i j:Nat} (h:rhoM l nx i=rhoM l nx j):i=j:=by
 rcases Nat.lt_or_ge i l.length with hi|hi<;>rcases Nat.lt_or_ge j l.length with hj|hj
 ·exact nodupB_inj hd (rhoM_mem (nx:=nx) hi) (h▸rhoM_mem (nx:=nx) hj)
 ·have h1:=hlt _ (List.mem_of_getElem? (rhoM_mem (nx:=nx) hi))
  rw[rhoM_ge hj]at h;omega
 ·have h1:=hlt _ (List.mem_of_getElem? (rhoM_mem (nx:=nx) hj))
  rw[rhoM_ge hi]at h;omega
 ·rw[rhoM_ge hi,rhoM_ge hj]at h;omega
def renB (ρ:Nat→Nat):Option Blk→Option Blk
 |none=>none
 |some b=>some (b.ren ρ)
def updM (ρ:Nat→Nat):Nat→List (Option Blk)→List (Nat×Option Blk)
 |_,[]=>[]
 |i,ob::l=>(ρ i,renB ρ ob)::updM ρ (i+1) l
theorem look_same' {b:Option Blk} {l:List (Nat×Option Blk)} {H:Hp} {i:Nat} :look ((i,b)::l) H i=b:=by simp only[look,Nat.beq_refl,cond_true]
theorem look_oth' {b:Option Blk} {l:List (Nat×Option Blk)} {H:Hp} {i j:Nat} (h:j≠i):look ((i,b)::l) H j=look l H j:=by
 have:Nat.beq j i=false:=by
  cases e:Nat.beq j i with
  |false=>rfl
  |true=>exact absurd (Nat.eq_of_beq_eq_true e) h
 simp only[look,this,cond_false]
theorem look_updM {ρ:Nat→Nat} (hinj:∀i j,ρ i=ρ j→i=j) {H:Hp} :∀(l:List (Option Blk)) (k:Nat),
 (∀i,i<l.length→look (updM ρ k l) H (ρ (k+i))=renB ρ (l[i]?).join)∧∀j,(∀i,i<l.length→j≠ρ (k+i))→look (updM ρ k l) H j=H j:=by
 intro l
 induction l with
 |nil=>intro k;exact ⟨fun i h=>(by simp at h),fun j _=>rfl⟩
 |cons ob l ih=>
  intro k
  obtain ⟨h1,h2⟩:=ih (k+1)
  refine ⟨fun i hi=> ?_,fun j hj=> ?_⟩
  ·cases i with
   |zero=>simp only[updM,Nat.add_zero];rw[look_same'];rfl
   |succ i=>
    have hne:ρ (k+(i+1))≠ρ k:=fun e=>by have:=hinj _ _ e;omega
    simp only[updM]
    rw[look_oth' hne,show k+(i+1)=k+1+i by omega,h1 i (by simpa using hi)]
    simp
  ·have hne:j≠ρ k:=by have:=hj 0 (by simp);simpa using this
   simp only[updM]
   rw[look_oth' hne]
   exact h2 j fun i hi=>by have:=hj (i+1) (by simpa using hi);rw[show k+1+i=k+(i+1)by omega];exact this
def newL (nx:Nat):Nat→List Nat
 |0=>[]
 |m+1=>nx::newL (nx+1) m
theorem newL_mem:∀ {m nx i:Nat},i∈newL nx m↔nx≤i∧i<nx+m:=by
 intro m
 induction m with
 |zero=>intro nx i;simp[newL]
 |succ m ih=>intro nx i;simp only[newL,List.mem_cons,ih];omega
def blksM (H:Hp):List Nat→Option (List Blk)
 | []=>some []
 |a::l=>match H a,blksM H l with
  |some b,some r=>some (b::r)
  |_,_=>none
theorem blksM_at {H:Hp} :∀ {l:List Nat} {r:List Blk},blksM H l=some r→r.length=l.length∧∀(i a:Nat) b,l[i]? =some a→r[i]? =some b→H a=some b:=by
 intro l
 induction l with
 |nil=>intro r h;cases h;exact ⟨rfl,fun i a b e=>(by simp at e)⟩
 |cons x l ih=>
  intro r h
  simp only[blksM]at h
  split at h
  ·rename_i b r' h1 h2
   cases h
   obtain ⟨q1,q2⟩:=ih h2
   refine ⟨by simp[q1],fun i a b' e e'=> ?_⟩
   cases i with
   |zero=>simp at e e';subst e;subst e';exact h1
   |succ i=>exact q2 i a b' (by simpa using e) (by simpa using e')
  ·cases h
def renBL (ρ:Nat→Nat):List Blk→List Blk
 | []=>[]
 |b::l=>b.ren ρ::renBL ρ l
theorem renBL_map (ρ:Nat→Nat) (l:List Blk):renBL ρ l=l.map (Blk.ren ρ):=by
 induction l with
 |nil=>rfl
 |cons b l ih=>simp[renBL,ih]
def allLt (n:Nat):List Blk→Bool
 | []=>true
 |b::l=>b.lt n&&allLt n l
theorem allLt_mem {n:Nat} :∀ {l:List Blk},allLt n l=true→∀b,b∈l→b.lt n=true:=by
 intro l
 induction l with
 |nil=>intro _ b h;cases h
 |cons x l ih=>
  intro h b hb
  simp only[allLt,Bool.and_eq_true]at h
  rcases List.mem_cons.1 hb with rfl|hb
  ·exact h.1
  ·exact ih h.2 b hb
def okM (ren:List Nat) (nx:Nat) (cargs:List G) (hs:List Blk):Bool:=
 nodupB ren&&(ren.all fun a=>Nat.ble (a+1) nx)&&Nat.beq ren.length hs.length&&G.ltL hs.length cargs&&allLt hs.length hs
section
variable {P:Program} {o:Oper} {ρ:Operand→G} {H:Hp}
theorem callee_run {f:Operand} {args:Array Operand} {tys:Array TypeId} (ho:o.op= .call {callee:= .value f,args:=args,argTypes:=tys}) {k:FuncId} {gs:List G} (hc:calleeG (ρ f) (args.toList.map ρ)=some (k,gs)) (hb:Body P k) {ν:Nu} {F:Fz} {w:World} {a:Act}
 (hv:∀x,x∈o.op.operands.toList→VR ν F w (ρ x) (a.eval x)):∃vs:Array Value,(execOp a.eval o).run P w= .ok (.enter k vs) w∧VRs ν F w gs vs:=by
 obtain ⟨fn,c,b1,b2,b3⟩:=hb
 have hargs:VRs ν F w (args.toList.map ρ) (args.map a.eval):=⟨by simp,fun j g u hg hu=>by
  rw[List.getElem?_map]at hg
  rw[Array.getElem?_map]at hu
  cases hj:args[j]? with
  |none=>rw[hj]at hu;cases hu
  |some x=>
   have hj':args.toList[j]? =some x:=by simpa using hj
   rw[hj']at hg;rw[hj]at hu
   simp only[Option.map_some]at hg hu
   injection hg with hg;injection hu with hu;subst hg;subst hu
   exact hv x (by simp only[ho,Op.operands,Call.operands];simp;right;exact Array.mem_of_getElem? hj)⟩
 have hfv:=hv f (by simp[ho,Op.operands,Call.operands])
 have enter:∀vs,(callFunc k vs).run P w= .ok (.enter k vs) w:=fun vs=>by
  have hnm:¬(fn.name= "runtime.NumGoroutine"):=by simpa using b3
  have hb:fn.body.isNone=false:=by rw[b2];rfl
  simp[callFunc,b1,hnm,b2]
 unfold calleeG at hc
 split at hc
 ·rename_i k1 fa fb hρ
  cases hab:(Nat.beq fa.size 0&&Nat.beq fb.size 0)with
  |false=>rw[hab]at hc;cases hc
  |true=>
  rw[hab]at hc
  simp only[Bool.and_eq_true]at hab
  obtain rfl:fa= #[]:=Array.eq_empty_of_size_eq_zero (Nat.eq_of_beq_eq_true hab.1)
  obtain rfl:fb= #[]:=Array.eq_empty_of_size_eq_zero (Nat.eq_of_beq_eq_true hab.2)
  cases hc
  rw[hρ]at hfv
  refine ⟨args.map a.eval,?_,hargs⟩
  have e1: #[]++args.map a.eval++ #[]=args.map a.eval:=by simp
  simp only[execOp,ho,resolve,hfv.sc_eq.1,Deferred.ofValue,Sem.run_bind,Sem.run_pure,Result.andThen_ok,invoke,e1,enter]
 ·rename_i k1 first captured hρ
  cases hc
  rw[hρ]at hfv
  cases hfe:a.eval f<;>rw[hfe]at hfv<;>cases hfv
  rename_i fs cs h1 r1 h2 r2
  refine ⟨fs++args.map a.eval++cs,?_,?_⟩
  ·simp only[execOp,ho,resolve,hfe,Deferred.ofValue,Sem.run_bind,Sem.run_pure,Result.andThen_ok,invoke,enter]
  ·refine ⟨by simp[h1,h2],fun j g u hg hu=> ?_⟩
   rw[Array.getElem?_append,Array.getElem?_append]at hu
   rw[List.getElem?_append,List.getElem?_append]at hg
   simp only[List.length_append,List.length_map,Array.length_toList,Array.size_append,Array.size_map,h1]at hg hu
   split at hg
   ·rename_i hj
    rw[if_pos hj]at hu
    split at hg
    ·rename_i hj2;rw[if_pos hj2]at hu;exact r1 j g u hg hu
    ·rename_i hj2;rw[if_neg hj2]at hu;exact hargs.2 _ g u hg hu
   ·rename_i hj
    rw[if_neg hj]at hu
    exact r2 _ g u hg hu
 ·cases hc
theorem rel_callM [Laid] {ν νc':Nu} {F F':Fz} {w w':World} {H1:Hp} {ren:List Nat} {nx:Nat} {hs:List Blk} {hs':List (Option Blk)} (r1:Rel ν F w H1) (hd:nodupB ren=true) (hlt:∀a,a∈ren→a<nx) (hlen:ren.length=hs.length) (hle:hs.length≤hs'.length)
 (hb:∀i,i<hs.length→(H1 (rhoM ren nx i)).isSome=true) (hnew:∀i,i∈newL nx (hs'.length-hs.length)→ν i=none)
 (h3:Rel νc' F' w' (hpR hs')) (h4:∀i,i<hs.length→νc' i=cutNu hs.length (rhoM ren nx) ν i) (h5:∀i,hs'.length≤i→νc' i=none) (h6:Evo (cutNu hs.length (rhoM ren nx) ν) F w (hpF hs) νc' F' w' (hpR hs')):
 ∃ν':Nu,(∀i p,νc' i=some p→ν' (rhoM ren nx i)=some p)∧Rel ν' F' w' (look (updM (rhoM ren nx) 0 hs') H1)∧More ν ν'∧(∀i,ν' i≠ν i→i∈newL nx (hs'.length-hs.length))∧Evo ν F w H1 ν' F' w' (look (updM (rhoM ren nx) 0 hs') H1):=by
 generalize hR:rhoM ren nx=R at*
 have hinj:∀i j,R i=R j→i=j:=fun i j h=>by rw[←hR]at h;exact rhoM_inj hd hlt h
 have hRlt:∀i,i<hs.length→R i<nx:=fun i hi=>by
  rw[←hR];exact hlt _ (List.mem_of_getElem? (rhoM_mem (nx:=nx) (by omega)))
 have hRge:∀i,hs.length≤i→R i=nx+(i-hs.length):=fun i hi=>by rw[←hR,←hlen];exact rhoM_ge (by omega)
 have hcut:∀i,i<hs.length→cutNu hs.length R ν i=ν (R i):=fun i hi=>if_pos hi
 obtain ⟨l1,l2⟩:=look_updM hinj (H:=H1) hs' 0
 simp only[Nat.zero_add]at l1 l2
 let ν':Nu:=fun j=>if nx≤j∧j<nx+(hs'.length-hs.length)then νc' (hs.length+(j-nx))else ν j
 have hν:∀i,i<hs'.length→ν' (R i)=νc' i:=fun i hi=>by
  rcases Nat.lt_or_ge i hs.length with h|h
  ·have:=hRlt i h
   show (if _ then _ else _)=_
   rw[if_neg (by omega),h4 i h,hcut i h]
  ·have e:=hRge i h
   show (if _ then _ else _)=_
   rw[if_pos (by omega),e]
   congr 1;omega
 have hup:∀i p,νc' i=some p→ν' (R i)=some p:=fun i p h=>by
  rcases Nat.lt_or_ge i hs'.length with hi|hi
  ·rw[hν i hi];exact h
  ·rw[h5 i hi]at h;cases h
 have hmem:∀ {i},i∈newL nx (hs'.length-hs.length)↔nx≤i∧i<nx+(hs'.length-hs.length):=newL_mem
 have hmore:More ν ν':=fun i p h=>by
  show (if _ then _ else _)=_
  by_cases c:nx≤i∧i<nx+(hs'.length-hs.length)
  ·have:=hnew i (hmem.2 c);rw[this]at h;cases h
  ·rw[if_neg c];exact h
 have himg:∀j,(∃i,i<hs'.length∧j=R i)∨∀i,i<hs'.length→j≠R i:=fun j=>by
  by_cases h:∃i,i<hs'.length∧j=R i
  ·exact .inl h
  ·exact .inr fun i hi e=>h ⟨i,hi,e⟩
 have hoff:∀j,(∀i,i<hs'.length→j≠R i)→ν' j=ν j:=fun j hj=>by
  show (if _ then _ else _)=_
  refine if_neg fun c=>hj (hs.length+(j-nx)) (by omega) ?_
  rw[hRge _ (by omega)];omega
 have hmine:∀r,Mine (cutNu hs.length R ν) (hpF hs) r→∃i k,i<hs.length∧ν (R i)=some (r,k):=fun r ⟨i,k,hi,e⟩=>by
  have hi':i<hs.length:=by
   obtain ⟨b,hb'⟩:=Option.isSome_iff_exists.1 hi
   exact (List.getElem?_eq_some_iff.1 hb').1
  exact ⟨i,k,hi',(hcut i hi')▸e⟩
 have out:∀j r k,(∀i,i<hs'.length→j≠R i)→(H1 j).isSome=true→ν j=some (r,k)→r<w.heap.size∧¬Mine (cutNu hs.length R ν) (hpF hs) r:=fun j r k hj hH e=>by
  refine ⟨r1.mine_lt ⟨j,k,hH,e⟩,fun hm=> ?_⟩
  obtain ⟨i,k',hi,e'⟩:=hmine r hm
  exact hj i (by omega) (r1.inj j (R i) r k k' hH (hb i hi) e e')
 have clash:∀i j r ki kj,(∃a,a<hs'.length∧i=R a)→(∀a,a<hs'.length→j≠R a)→(look (updM R 0 hs') H1 i).isSome=true→(look (updM R 0 hs') H1 j).isSome=true→ν' i=some (r,ki)→ν' j=some (r,kj)→False:=fun i j r ki kj ⟨a,ha,hi⟩ hj h1 h2 e1 e2=>by
  subst hi
  rw[l1 a ha]at h1
  rw[l2 j hj]at h2
  rw[hν a ha]at e1
  rw[hoff j hj]at e2
  obtain ⟨o1,o2⟩:=out j r kj hj h2 e2
  have hs1:(hpR hs' a).isSome=true:=by
   show ((hs'[a]?).join).isSome=true
   cases hx:(hs'[a]?).join with
   |none=>rw[hx]at h1;cases h1
   |some b=>rfl
  rcases h6.mine r ⟨a,ki,hs1,e1⟩with h|h
  ·exact o2 h
  ·omega
 have hkp:Keep F w F' w':=h6.keep
 refine ⟨ν',hup,⟨fun i j r ki kj hi hj ei ej=> ?_,fun i b hi=> ?_,h3.old,h3.glob⟩,hmore,fun i hi=> ?_,⟨hkp,h6.os,h6.tape,h6.output,h6.size,fun r hr hm=> ?_,fun r hm=> ?_,fun b o ho=> ?_⟩⟩
 ·rcases himg i with hA|hA<;>rcases himg j with hB|hB
  ·obtain ⟨a,ha,rfl⟩:=hA
   obtain ⟨b,hb',rfl⟩:=hB
   rw[l1 a ha]at hi
   rw[l1 b hb']at hj
   rw[hν a ha]at ei
   rw[hν b hb']at ej
   have s1:∀x,(renB R (hs'[x]?).join).isSome=true→(hpR hs' x).isSome=true:=fun x hx=>by
    show ((hs'[x]?).join).isSome=true
    cases hy:(hs'[x]?).join with
    |none=>rw[hy]at hx;cases hx
    |some b=>rfl
   rw[h3.inj a b r ki kj (s1 a hi) (s1 b hj) ei ej]
  ·exact (clash i j r ki kj hA hB hi hj ei ej).elim
  ·exact (clash j i r kj ki hB hA hj hi ej ei).elim
  ·rw[l2 i hA]at hi
   rw[l2 j hB]at hj
   rw[hoff i hA]at ei
   rw[hoff j hB]at ej
   exact r1.inj i j r ki kj hi hj ei ej
 ·rcases himg i with hA|hA
  ·obtain ⟨a,ha,rfl⟩:=hA
   rw[l1 a ha]at hi
   rw[hν a ha]
   cases hx:(hs'[a]?).join with
   |none=>rw[hx]at hi;cases hi
   |some b1=>
    rw[hx]at hi
    cases hi
    exact (h3.blk a b1 hx).up hup
  ·rw[l2 i hA]at hi
   rw[hoff i hA]
   refine (r1.blk i b hi).keep hkp hmore (fun r k e=> ?_) (fun r k e o=>⟨fun ho=> ?_,fun ho=>hkp.sub _ _ ho⟩)
   ·obtain ⟨o1,o2⟩:=out i r k hA (by rw[hi];rfl) e
    exact h6.frame r o1 o2
   ·obtain ⟨o1,o2⟩:=out i r k hA (by rw[hi];rfl) e
    rcases h6.fz r o ho with h|h|h
    ·exact h
    ·exact absurd h o2
    ·omega
 ·refine Classical.byContradiction fun hn=>hi ?_
  show (if _ then _ else _)=_
  exact if_neg fun c=>hn (hmem.2 c)
 ·refine h6.frame r hr fun hx=> ?_
  obtain ⟨i,k,hi,e⟩:=hmine r hx
  exact hm ⟨R i,k,hb i hi,e⟩
 ·obtain ⟨i,k,hi,e⟩:=hm
  rcases himg i with hA|hA
  ·obtain ⟨a,ha,rfl⟩:=hA
   rw[l1 a ha]at hi
   rw[hν a ha]at e
   have hs1:(hpR hs' a).isSome=true:=by
    show ((hs'[a]?).join).isSome=true
    cases hx:(hs'[a]?).join with
    |none=>rw[hx]at hi;cases hi
    |some b=>rfl
   rcases h6.mine r ⟨a,k,hs1,e⟩with h|h
   ·obtain ⟨i,k',hi',e'⟩:=hmine r h
    exact .inl ⟨R i,k',hb i hi',e'⟩
   ·exact .inr h
  ·rw[l2 i hA]at hi
   rw[hoff i hA]at e
   exact .inl ⟨i,k,hi,e⟩
 ·rcases h6.fz b o ho with h|h|h
  ·exact .inl h
  ·obtain ⟨i,k',hi',e'⟩:=hmine b h
   exact .inr (.inl ⟨R i,k',hb i hi',e'⟩)
  ·exact .inr (.inr h)
def hideH (ren:List Nat) (H:Hp):Hp:=fun i=>bif ren.any (fun j=>Nat.beq i j)then none else H i
theorem hide_some {ren:List Nat} {H:Hp} {i:Nat} {b:Blk} (h:hideH ren H i=some b):H i=some b:=by
 unfold hideH at h
 cases e:ren.any (fun j=>Nat.beq i j)with
 |true=>rw[e]at h;cases h
 |false=>rw[e]at h;exact h
theorem lop_callM [Laid] {f:Operand} {args:Array Operand} {tys:Array TypeId} (ho:o.op= .call {callee:= .value f,args:=args,argTypes:=tys}) {k:FuncId} {gs:List G} (hc:calleeG (ρ f) (args.toList.map ρ)=some (k,gs)) {p:Option Prop} {ga:List G} {u:List (Nat×Option Blk)} {ren:List Nat} (hu:args2 (hideH ren H) gs=some (p,ga,u)) (hp:obP p)
 {nx:Nat} {cargs:List G} {hs bs:List Blk} {g:G} {hs':List (Option Blk)} (h:GM P k cargs hs g hs') (hok:okM ren nx cargs hs=true) (hle:hs.length≤hs'.length) (he:EntL ga (G.renL (rhoM ren nx) cargs)) (hbs:blksM (look u H) ren=some bs) (hbe:BEntL bs (renBL (rhoM ren nx) hs)):
 LOp P o ρ H {g:=g.ren (rhoM ren nx),upd:=updM (rhoM ren nx) 0 hs'++u,fp:=ren++u.map (·.1),new:=newL nx (hs'.length-hs.length)} :=by
 intro H' hfp hnewH ν F w a hv hr hnew
 simp only[okM,Bool.and_eq_true,List.all_eq_true]at hok
 obtain ⟨⟨⟨⟨o1,o2⟩,o3⟩,o4⟩,o5⟩:=hok
 have hlen:ren.length=hs.length:=Nat.eq_of_beq_eq_true o3
 have hlt:∀a,a∈ren→a<nx:=fun a ha=>Nat.le_of_ble_eq_true (o2 a ha)
 obtain ⟨vs,hrun,hvs⟩:=callee_run (P:=P) ho hc h.1 hv
 obtain ⟨f0,f2,f3⟩:=args2_sound _ _ _ _ hu hp
 have f1:FzU H u:=fun q hq=>by
  obtain ⟨ty,es,α,df,cs,xs,fz,e1,e2⟩:=f0 q hq
  exact ⟨ty,es,α,df,cs,xs,fz,hide_some e1,e2⟩
 have hu':FzU H' u:=fun q hq=>by
  obtain ⟨ty,es,α,df,cs,xs,fz,e1,e2⟩:=f1 q hq
  exact ⟨ty,es,α,df,cs,xs,fz,(hfp q.1 (List.mem_append_right _ (List.mem_map.2 ⟨q,hq,rfl⟩))).trans e1,e2⟩
 obtain ⟨F1,r1,k1,e1⟩:=freeze_u hr u hu'
 generalize hR:rhoM ren nx=R at*
 have hvs':VRs ν F1 w (G.renL R cargs) vs:=by
  obtain ⟨x1,x2⟩:=EntL.vrs (ν:=ν) (F:=F1) (w:=w) ga (G.renL R cargs) he
  refine ⟨by rw[hvs.1,←x1,f2],fun j g' u hg hu=>x2 j g' u hg fun g hg=> ?_⟩
  have hlt:j<gs.length:=by rw[←f2];exact (List.getElem?_eq_some_iff.1 hg).1
  exact f3 ν F1 w _ r1 (fun q hq=>look_u hu' q hq) j gs[j] g u (List.getElem?_eq_getElem hlt) hg ((hvs.2 j _ u (List.getElem?_eq_getElem hlt) hu).keep k1 (More.refl _))
 have hcv:VRs (cutNu hs.length R ν) F1 w cargs vs:=by
  refine ⟨by rw[hvs'.1,renL_map,List.length_map],fun j g' u hg hu=> ?_⟩
  simp only[ltL_all,List.all_eq_true]at o4
  exact (hvs'.2 j (g'.ren R) u (by rw[renL_map,List.getElem?_map,hg];rfl) hu).ren g' rfl (o4 g' (List.mem_of_getElem? hg))
 obtain ⟨b1,b2⟩:=blksM_at hbs
 obtain ⟨b3,b4⟩:=hbe.at_
 have hblk:∀i b,hs[i]? =some b→∃b0,look u H' (R i)=some b0∧BEnt b0 (b.ren R):=fun i b hi=>by
  obtain ⟨b0,q1,q2⟩:=b4 i (b.ren R) (by rw[renBL_map,List.getElem?_map,hi];rfl)
  have hi':i<ren.length:=by rw[hlen];exact (List.getElem?_eq_some_iff.1 hi).1
  have hm:=rhoM_mem (nx:=nx) hi'
  rw[hR]at hm
  refine ⟨b0,?_,q2⟩
  rw[look_congr u H' H (R i) (hfp _ (List.mem_append_left _ (List.mem_of_getElem? hm)))]
  exact b2 i (R i) b0 hm q1
 have hcut:∀i,i<hs.length→cutNu hs.length R ν i=ν (R i):=fun i hi=>if_pos hi
 have hinj:∀i j,R i=R j→i=j:=fun i j h=>by rw[←hR]at h;exact rhoM_inj o1 hlt h
 have hsome:∀i,i<hs.length→(look u H' (R i)).isSome=true:=fun i hi=>by
  obtain ⟨b0,q,_⟩:=hblk i hs[i] (List.getElem?_eq_getElem hi)
  rw[q];rfl
 have hidx:∀i,(hpF hs i).isSome=true→i<hs.length:=fun i hi=>by
  obtain ⟨b,hb'⟩:=Option.isSome_iff_exists.1 hi
  exact (List.getElem?_eq_some_iff.1 hb').1
 have hrc:Rel (cutNu hs.length R ν) F1 w (hpF hs):=by
  refine ⟨fun i j r ki kj hi hj ei ej=> ?_,fun i b hi=> ?_,r1.old,r1.glob⟩
  ·have hi':=hidx i hi
   have hj':=hidx j hj
   rw[hcut i hi']at ei
   rw[hcut j hj']at ej
   exact hinj _ _ (r1.inj _ _ r ki kj (hsome i hi') (hsome j hj') ei ej)
  ·have hi':=hidx i (by rw[hi];rfl)
   obtain ⟨b0,q1,q2⟩:=hblk i b hi
   rw[hcut i hi']
   exact (q2 _ _ _ _ (r1.blk _ _ q1)).ren (allLt_mem o5 b (List.mem_of_getElem? hi))
 refine ⟨noDefer_of hrun fun d e=>(by cases e),?_⟩
 rw[hrun]
 refine Calls.mono (h.2 (cutNu hs.length R ν) F1 w vs hrc (fun i hi=>if_neg (by omega)) hcv) fun e w' ⟨νc',F',v,h1,h2,h3,h4,h5,h6⟩=> ?_
 subst h1
 obtain ⟨ν',q1,q2,q3,q4,q5⟩:=rel_callM (nx:=nx) (ren:=ren) r1 o1 hlt hlen hle (by rw[hR];exact hsome) hnew h3 (by rw[hR];exact h4) h5 (by rw[hR];exact h6)
 rw[hR]at q1 q2 q5
 rw[look_append]
 exact ⟨v,rfl,ν',F',v,rfl,h2.up q1,q2,q3,q4,e1.trans q5⟩
end
end Go.Gh
namespace Go.Gh
open Go Go.RowKit
set_option linter.unusedVariables false
def Inv (P:Program) (t:TypeId) (name:String) (k:FuncId):Prop:=∀(x:Value) (args:Array Value) (w:World),(callMethod (.iface t x) name args).run P w= .ok (.enter k (#[x]++args)) w
section
variable {P:Program} {T:Tab} {o:Oper} {ρ:Operand→G} {H:Hp}
theorem lop_enter [Laid] {k:FuncId} {gs gs':List G} {p:Option Prop} {ga:List G} {u:List (Nat×Option Blk)} {g:G}
 (hrun:∀(ν:Nu) (F:Fz) (w:World) (a:Act),(∀x,x∈o.op.operands.toList→VR ν F w (ρ x) (a.eval x))→∃vs:Array Value,(execOp a.eval o).run P w= .ok (.enter k vs) w∧VRs ν F w gs vs)
 (hu:args2 H gs=some (p,ga,u)) (hp:obP p) (he:EntL ga gs') (h:GC P k gs' g):LOp P o ρ H {g:=g,upd:=u,fp:=u.map (·.1)} :=by
 intro H' hfp _ ν F w a hv hr hnew
 obtain ⟨vs,hrun,hvs⟩:=hrun ν F w a hv
 obtain ⟨f1,f2,f3⟩:=args2_sound _ _ _ _ hu hp
 have hu':FzU H' u:=fun q hq=>by
  obtain ⟨ty,es,α,df,cs,xs,fz,e1,e2⟩:=f1 q hq
  exact ⟨ty,es,α,df,cs,xs,fz,(hfp q.1 (List.mem_map.2 ⟨q,hq,rfl⟩)).trans e1,e2⟩
 obtain ⟨F1,r1,k1,e1⟩:=freeze_u hr u hu'
 have hvs':VRs ν F1 w gs' vs:=by
  obtain ⟨x1,x2⟩:=EntL.vrs (ν:=ν) (F:=F1) (w:=w) ga gs' he
  refine ⟨by rw[hvs.1,←x1,f2],fun j g' u hg hu=>x2 j g' u hg fun g hg=> ?_⟩
  have hlt:j<gs.length:=by rw[←f2];exact (List.getElem?_eq_some_iff.1 hg).1
  exact f3 ν F1 w _ r1 (fun q hq=>look_u hu' q hq) j gs[j] g u (List.getElem?_eq_getElem hlt) hg ((hvs.2 j _ u (List.getElem?_eq_getElem hlt) hu).keep k1 (More.refl _))
 refine ⟨noDefer_of hrun fun d e=>(by cases e),?_⟩
 rw[hrun]
 refine Calls.mono (h.2 ν F1 w _ vs r1 hvs') fun e w' ⟨F',v,h1,h2,h3,h4⟩=> ?_
 exact ⟨v,h1,ν,F',v,rfl,h2,h3,More.refl _,fun i hi=>absurd rfl hi,e1.trans h4⟩
theorem lop_invoke [Laid] {f:Operand} {name:String} {args:Array Operand} {tys:Array TypeId} (ho:o.op= .call {callee:= .invoke f name,args:=args,argTypes:=tys}) {t:TypeId} {gx:G} (hf:ρ f= .iface t gx) {k:FuncId} (hi:Inv P t name k) {gs':List G} {p:Option Prop} {ga:List G} {u:List (Nat×Option Blk)}
 (hu:args2 H (gx::args.toList.map ρ)=some (p,ga,u)) (hp:obP p) {g:G} (he:EntL ga gs') (h:GC P k gs' g):LOp P o ρ H {g:=g,upd:=u,fp:=u.map (·.1)} :=by
 refine lop_enter (k:=k) (gs:=gx::args.toList.map ρ) (fun ν F w a hv=> ?_) hu hp he h
 have hargs:∀(j:Nat) g u,(args.toList.map ρ)[j]? =some g→(args.map a.eval)[j]? =some u→VR ν F w g u:=fun j g u hg hu=>by
  rw[List.getElem?_map]at hg
  rw[Array.getElem?_map]at hu
  cases hj:args[j]? with
  |none=>rw[hj]at hu;cases hu
  |some x=>
   have hj':args.toList[j]? =some x:=by simpa using hj
   rw[hj']at hg;rw[hj]at hu
   simp only[Option.map_some]at hg hu
   injection hg with hg;injection hu with hu;subst hg;subst hu
   exact hv x (by simp only[ho,Op.operands,Call.operands];simp;right;exact Array.mem_of_getElem? hj)
 have hfv:=hv f (by simp[ho,Op.operands,Call.operands])
 rw[hf]at hfv
 cases hfe:a.eval f<;>rw[hfe]at hfv<;>cases hfv
 rename_i x hx
 refine ⟨#[x]++args.map a.eval,?_,⟨by simp;omega,fun j g u hg hu=> ?_⟩⟩
 ·have e0:(#[Value.iface t x]++args.map a.eval)[0]? =some (.iface t x):=by rw[Array.getElem?_append];rfl
  have e1:(#[Value.iface t x]++args.map a.eval).extract 1 (#[Value.iface t x]++args.map a.eval).size=args.map a.eval:=by
   apply Array.ext'
   simp
   exact List.take_of_length_le (by simp)
  simp only[execOp,ho,resolve,hfe,Sem.run_bind,Sem.run_pure,Result.andThen_ok,invoke,e0,e1,hi x (args.map a.eval) w]
 ·cases j with
  |zero=>
   rw[Array.getElem?_append]at hu
   simp at hg hu
   subst hg;subst hu;exact hx
  |succ j=>
   refine hargs j g u (by simpa using hg) ?_
   rw[Array.getElem?_append]at hu
   simpa using hu
def notIface:TypeDesc→Bool
 | .interface _=>false
 |_=>true
theorem lop_iface [Laid] {t:TypeId} {x:Operand} (hT:TabOK P T) (ho:o.op= .makeInterface t x) {e:TyE} (te:tyAt T t=some e) (hn:notIface e.desc=true):LOp P o ρ H {g:= .iface t (ρ x)} :=by
 have k:=hT _ _ te
 refine lop_pure fun H' _ ν F w a hv hr=> ?_
 refine ⟨_,?_,.iface t _ _ (hv x (by simp[ho,Op.operands]))⟩
 simp only[execOp,ho,Instr.makeInterface,Sem.run_bind,k.under w,Result.andThen_ok]
 cases hd:e.desc<;>first|rfl|(rw[hd]at hn;cases hn)
def somePtr:G→Bool
 | .ptr .. =>true
 | .ep _=>true
 |_=>false
theorem lop_nilCheck [Laid] {x:Operand} (ho:o.op= .nilCheck x) (hx:somePtr (ρ x)=true):LOp P o ρ H {g:=ρ x} :=by
 refine lop_pure fun H' _ ν F w a hv hr=> ?_
 have h:=hv x (by simp[ho,Op.operands])
 refine ⟨a.eval x,?_,h⟩
 cases hg:ρ x<;>rw[hg]at hx<;>first|(cases hx;done)|skip
 ·rw[hg]at h
  obtain ⟨r,k,_,e⟩:=h.ptr_inv
  simp only[execOp,ho,e];rfl
 ·rw[hg]at h
  obtain ⟨b,off,val,e,_⟩:=h.ep_inv
  simp only[execOp,ho,e];rfl
theorem lop_index_agg [Laid] {t:TypeId} {x y:Operand} (hT:TabOK P T) (ho:o.op= .index t x y) {e:TyE} (te:tyAt T t=some e) {len:Nat} {el:TypeId} (hd:e.desc= .array len el) {ee:TyE} (tee:tyAt T el=some ee) (h1:Nat.beq ee.size 1=true) (hag:aggD ee.desc=false) {k:IntKind} {n:Int} (hy:idxOf (ρ y)=some (k,n)) {gs:List G} (hx:ρ x= .agg gs) {g:G} (hp:0≤n∧n<len∧gs[n.toNat]? =some g):LOp P o ρ H {g:=g} :=by
 have kt:=hT _ _ te
 have ke:=hT _ _ tee
 have h1:=Nat.eq_of_beq_eq_true h1
 obtain ⟨p1,p2,p3⟩:=hp
 refine lop_pure fun H' _ ν F w a hv hr=> ?_
 have hye:=idxOf_sound hy (hv y (by simp[ho,Op.operands]))
 have hxv:=hv x (by simp[ho,Op.operands])
 rw[hx]at hxv
 obtain ⟨cs,hxe,hcr⟩:=hxv.agg_inv
 obtain ⟨u,hu,hvr⟩:=hcr.at_ p3
 refine ⟨u,?_,hvr⟩
 have hu':cs[n.toNat]? =some u:=by simpa using hu
 have hcond:(0≤n∧n<(len:Int)):=⟨p1,p2⟩
 simp only[execOp,ho,Instr.index,Sem.run_bind,hye,asIntOf,Sem.run_pure,Result.andThen_ok,kt.under w,hd,hxe,if_pos hcond,ke.sizeOf w,h1,Nat.mul_one,part,ke.isAgg w,hag,Bool.false_eq_true,if_false,hu']
theorem getElem?_madeCells (z:Array Value) (n q:Nat) (h:q<n) (hz:0<z.size):(madeCells z n)[q]? =z[q % z.size]? :=by
 have h2:q % z.size<z.size:=Nat.mod_lt _ hz
 have h1:q<(madeCells z n).size:=by rw[size_madeCells];exact h
 rw[Array.getElem?_eq_getElem h1,Array.getElem?_eq_getElem h2]
 simp[madeCells,h2]
def scD:List Value→List D
 | []=>[]
 |v::l=> .sc v::scD l
theorem scD_eq (l:List Value):scD l=l.map .sc:=by
 induction l with
 |nil=>rfl
 |cons v l ih=>simp[scD,ih]
theorem lop_make [Laid] {t:TypeId} {x y:Operand} (hT:TabOK P T) (ho:o.op= .makeSlice t x y) {te:TyE} (h1:tyAt T t=some te) {el:TypeId} (hd:te.desc= .slice el) {ee:TyE} (h2:tyAt T el=some ee) (hz1:allOne ee.zero=true) (hzs:Nat.beq ee.zero.cells.size ee.size=true) (hes:Nat.ble 1 ee.size=true)
 {kl kc:IntKind} {n m:Int} (hx:idxOf (ρ x)=some (kl,n)) (hy:idxOf (ρ y)=some (kc,m)) (nx:Nat) {α:Type} {df:α} {cs:α→List D} {zs:List α}
 (hp:n=m∧0≤n∧(ee.bytes:Int)*n≤281474976710656∧n≤9223372036854775807∧rowL cs zs=List.replicate n.toNat (scD ee.zero.cells.toList)):
 LOp P o ρ H {g:= .sl nx ee.size 0 n.toNat,upd:=[(nx,some (.row el ee.size df cs zs 0))],new:=[nx]} :=by
 obtain ⟨rfl,p0,p1,p2,p3⟩:=hp
 have kt:=hT _ _ h1
 have ke:=hT _ _ h2
 have hzs:=Nat.eq_of_beq_eq_true hzs
 have hes:=Nat.le_of_ble_eq_true hes
 have hzlen:zs.length=n.toNat:=by
  have:=congrArg List.length p3
  simpa [rowL]using this
 intro H' _ hnone
 refine gop_val fun ν F w a hv hr hnew=> ?_
 have hν:=hnew nx (by simp)
 have hxe:=idxOf_sound hx (hv x (by simp[ho,Op.operands]))
 have hye:=idxOf_sound hy (hv y (by simp[ho,Op.operands]))
 obtain ⟨i,e1,e2,e3,e4⟩:=ke.info
 have hrun0:=run_make (P:=P) w t el i ee.zero (hd▸kt.1) e1 e4 kl kc n n p0 (Int.le_refl _) (by rw[e3];exact p1) p2
 rw[e2]at hrun0
 generalize hvs:madeCells ee.zero.cells (n.toNat*ee.size)=vs at hrun0
 have hvsz:vs.size=n.toNat*ee.size:=by rw[←hvs];exact size_madeCells _ _
 have hzone:∀u,u∈vs.toList→u.oneCell'=true:=fun u hu=>by
  obtain ⟨q,hq⟩:=List.getElem?_of_mem hu
  have hq':vs[q]? =some u:=by simpa using hq
  have hlt:q<n.toNat*ee.size:=by rw[←hvsz];exact (Array.getElem?_eq_some_iff.1 hq').1
  rw[←hvs,getElem?_madeCells _ _ _ hlt (by omega)]at hq'
  simp only[allOne,List.all_eq_true]at hz1
  exact hz1 _ (by simpa using Array.mem_of_getElem? hq')
 have hrun:(execOp a.eval o).run P w= .ok (.value (.slice (some ⟨w.heap.size,0,none⟩) n.toNat n.toNat)) (w.alloc (.cells vs el)):=by
  simp only[execOp,ho,hxe,hye,Sem.run_bind,hrun0,Result.andThen_ok,Sem.run_pure]
 have hw':(w.alloc (.cells vs el)).heap[w.heap.size]? =some (.cells vs el (0,0)):=heap_alloc_new w _
 have hfr:FR F (w.alloc (.cells vs el)) ee.size (rowL cs zs) vs.toList:=by
  refine ⟨by rw[p3];simp[hvsz],hzone,fun i e he=> ?_,fun i e j x u a b c=> ?_⟩
  ·rw[p3,List.getElem?_replicate]at he
   split at he
   ·cases he;simp[scD_eq,hzs]
   ·cases he
  ·rw[p3,List.getElem?_replicate]at a
   split at a
   ·rename_i hi
    cases a
    rw[scD_eq,List.getElem?_map]at b
    have hj:j<ee.size:=by
     rw[←hzs]
     cases hjj:ee.zero.cells.toList[j]? with
     |none=>rw[hjj]at b;cases b
     |some y=>have:=(List.getElem?_eq_some_iff.1 hjj).1;simpa using this
    have hlt:=blk_idx hi hj
    have c':vs[i*ee.size+j]? =some u:=by simpa using c
    rw[←hvs,getElem?_madeCells _ _ _ hlt (by omega),hzs]at c'
    have hm:(i*ee.size+j) % ee.size=j:=by rw[Nat.add_comm,Nat.add_mul_mod_self_right,Nat.mod_eq_of_lt hj]
    rw[hm]at c'
    have c2:ee.zero.cells.toList[j]? =some u:=by simpa using c'
    rw[c2]at b
    cases b
    refine .sc _ ?_
    simp only[allOne,List.all_eq_true]at hz1
    exact hz1 _ (by simpa using List.mem_of_getElem? c2)
   ·cases a
 have hbr:BR (addNu ν nx w.heap.size n.toNat) F (w.alloc (.cells vs el)) (some (w.heap.size,n.toNat)) (.row el ee.size df cs zs 0):=by
  refine hfr.BR hw' (by unfold maxLen;omega) hvsz (by rw[hzlen];exact Nat.le_refl _) ?_ hzone (fun o=>⟨fun ho=>by have:=hr.old_lt ho;omega,fun ho=>by omega⟩) (by simp)
  rw[hzlen,List.take_of_length_le (by simp[hvsz])]
 obtain ⟨r1,r2⟩:=hr.add hν (hnone nx (by simp)) _ hbr
 refine ⟨_,_,addNu ν nx w.heap.size n.toNat,F,hrun,?_,r1,More.add hν,fun i hi=> ?_,r2⟩
 ·exact .sl _ _ _ _ _ _ (fun _=>⟨w.heap.size,n.toNat,addNu_same _ _ _ _,by rw[Nat.zero_mul],by omega,by omega⟩) (fun _ _=> .inl ⟨w.heap.size,n.toNat,addNu_same _ _ _ _,rfl,rfl⟩) (Nat.le_refl _)
 ·by_cases e:i=nx
  ·simp[e]
  ·exact absurd (addNu_other ν e) hi
theorem splice_get {α:Type _} (L vs:List α) (p q:Nat) (h:p+vs.length≤L.length):(L.take p++vs++L.drop (p+vs.length))[q]? =if q<p then L[q]? else if q<p+vs.length then vs[q-p]? else L[q]? :=by
 have hp:(L.take p).length=p:=by rw[List.length_take];omega
 by_cases h1:q<p
 ·rw[if_pos h1,List.append_assoc,List.getElem?_append_left (by omega),List.getElem?_take,if_pos h1]
 ·rw[if_neg h1]
  by_cases h2:q<p+vs.length
  ·rw[if_pos h2,List.getElem?_append_left (by rw[List.length_append];omega),List.getElem?_append_right (by omega),hp]
  ·rw[if_neg h2,List.getElem?_append_right (by rw[List.length_append];omega),List.getElem?_drop]
   congr 1
   rw[List.length_append];omega
def dLO:List G→Option (List D)
 | []=>some []
 | .d x::l=>match dLO l with
   |some r=>some (x::r)
   |none=>none
 |_::_=>none
theorem dLO_eq:∀ {gs:List G} {cs:List D},dLO gs=some cs→gs=cs.map .d:=by
 intro gs
 induction gs with
 |nil=>intro cs h;cases h;rfl
 |cons g gs ih=>
  intro cs h
  cases g with
  |d x=>
   simp only[dLO]at h
   split at h
   ·rename_i r hr;cases h;rw[ih hr];rfl
   ·cases h
  |_=>cases h
def putD (L:List (List D)) (i f:Nat) (ds:List D):List (List D):=L.set i ((L.getD i []).take f++ds++(L.getD i []).drop (f+ds.length))
theorem lop_storeRow [Laid] {t:TypeId} {x y:Operand} (hT:TabOK P T) (ho:o.op= .store t x y) {e:TyE} (te:tyAt T t=some e) {b es i f:Nat} (hx:ρ x= .ptr b es i f) {ty es' fz:Nat} {α:Type} {df:α} {cs:α→List D} {xs:List α} (hb:H b=some (.row ty es' df cs xs fz)) (hee:Nat.beq es es'=true)
 {gs:List G} (hgs:cellsG (ρ y)=some gs) {ds:List D} (hds:dLO gs=some ds) (hsz:Nat.beq gs.length e.size=true) {β:Type} {df':β} {cs':β→List D} {zs:List β}
 (hp:fz≤i∧i<xs.length∧f+ds.length≤es'∧rowL cs' zs=putD (rowL cs xs) i f ds):
 LOp P o ρ H {g:= .junk,upd:=[(b,some (.row ty es' df' cs' zs fz))],fp:=[b]} :=by
 have k:=hT _ _ te
 have:=Nat.eq_of_beq_eq_true hee
 subst this
 have hsz:=Nat.eq_of_beq_eq_true hsz
 have hgd:=dLO_eq hds
 obtain ⟨p1,p2,p3,p4⟩:=hp
 have hgl:gs.length=ds.length:=by rw[hgd];simp
 intro H' hf hn
 refine gop_skip fun ν F w a hv hr=> ?_
 have hH':=(hf b (by simp)).trans hb
 have hbr:=hr.blk b _ hH'
 have hzl:zs.length=xs.length:=by
  have:=congrArg List.length p4
  simpa [rowL,putD]using this
 rcases hbr with ⟨_,hxs,_⟩|⟨r,q,arr,e1,e2,e3,e4,e5,e6,e7,e8,e9,e10⟩
 ·rw[hxs]at p2;simp at p2
 have hxv:=hv x (by simp[ho,Op.operands])
 have hyv:=(hv y (by simp[ho,Op.operands])).cells hgs
 rw[hx]at hxv
 obtain ⟨r',k',he,hxe⟩:=hxv.ptr_inv
 rw[e1]at he;injection he with he;injection he with he1 he2;subst he1
 have hlv:(a.eval y).cells.toList.length=e.size:=by rw[hyv.len,hsz]
 have hlv':(a.eval y).cells.toList.length=ds.length:=by rw[hyv.len,hgl]
 have hroom:i*es+f+ds.length≤arr.toList.length:=by
  have hal:arr.toList.length=arr.size:=by simp
  rw[hal,e4]
  have h1:(i+1)*es≤q*es:=Nat.mul_le_mul_right es (by omega)
  rw[Nat.succ_mul]at h1
  omega
 have hal:arr.toList.length=arr.size:=by simp
 have hrun:=run_storeCells_at (P:=P) r (i*es+f) ty (a.eval y).cells.toList 0 arr w e2 (by rw[hlv'];omega) hyv.one
 refine ⟨w.setRow r (arr.toList.take (i*es+f+0)++(a.eval y).cells.toList++arr.toList.drop (i*es+f+0+(a.eval y).cells.toList.length)).toArray,?_,?_⟩
 ·have hcs:¬((a.eval y).cells.size≠e.size):=by
   have:(a.eval y).cells.size=(a.eval y).cells.toList.length:=by simp
   rw[this,hlv];simp
  simp only[execOp,ho,Instr.storeAt,hxe,Instr.sureAddr,Sem.run_bind,Sem.run_pure,Result.andThen_ok,storeVar,k.sizeOf w]
  rw[if_neg hcs]
  rw[hrun]
  rfl
 ·have hget:=fun q'=>splice_get arr.toList (a.eval y).cells.toList (i*es+f) q' (by rw[hlv'];exact hroom)
  simp only[Nat.add_zero]
  generalize hvs:(arr.toList.take (i*es+f)++(a.eval y).cells.toList++arr.toList.drop (i*es+f+(a.eval y).cells.toList.length))=vs
  rw[hvs]at hget
  have hvsl:vs.length=arr.size:=by
   rw[←hvs];simp
   have:arr.toList.length=arr.size:=by simp
   have h2:(a.eval y).cells.toList.length=(a.eval y).cells.size:=by simp
   omega
  have hfz:fz*es≤i*es:=Nat.mul_le_mul_right es p1
  have hcell:∀o,F r o→(w.setRow r vs.toArray).cell? ⟨r,o,none⟩=w.cell? ⟨r,o,none⟩:=fun o ho'=>by
   have hlt:=(e9 o).1 ho'
   have:=hget o
   rw[if_pos (by omega)]at this
   have h1:vs.toArray[o]? =arr[o]? :=by simpa using this
   have hne:=setRow_heap w r arr vs.toArray ty (0,0) e2
   simp only[World.cell?,hne,e2,h1]
  have hszr:szAt (w.setRow r vs.toArray) r=szAt w r:=by
   unfold szAt
   rw[setRow_heap w r arr vs.toArray ty (0,0) e2,e2]
   show some vs.toArray.size=some arr.size
   rw[←hvsl];simp
  have hk:Keep F w F (w.setRow r vs.toArray):=⟨fun _ _ h=>h,fun b' o' hb'=>by
   by_cases e:b'=r
   ·subst e;exact hcell o' hb'
   ·simp only[World.cell?,setRow_other w r b' _ e],fun b' o' hb'=>by
   by_cases e:b'=r
   ·subst e;exact hszr
   ·exact szAt_of (setRow_other w r b' _ e)⟩
  refine hr.put hH' e1 (fun r' hr'=>setRow_other w r r' _ hr') (by simp[World.setRow]) hcell rfl rfl rfl ?_ (fun _ _=>hszr)
  have hel:∀(i':Nat) e',zs[i']? =some e'→∃e0,xs[i']? =some e0∧((i'≠i∧cs' e'=cs e0)∨(i'=i∧cs' e'=(cs e0).take f++ds++(cs e0).drop (f+ds.length))):=fun i' e' he'=>by
   have hlt:i'<xs.length:=by rw[←hzl];exact (List.getElem?_eq_some_iff.1 he').1
   have h1:(rowL cs' zs)[i']? =some (cs' e'):=by simp[rowL,he']
   rw[p4,putD,List.getElem?_set]at h1
   refine ⟨xs[i'],List.getElem?_eq_getElem hlt,?_⟩
   have h0:(rowL cs xs)[i']? =some (cs xs[i']):=by simp[rowL,hlt]
   by_cases e:i=i'
   ·subst e
    rw[if_pos rfl,if_pos (by simpa [rowL]using hlt)]at h1
    have hg:(rowL cs xs).getD i []=cs xs[i]:=by rw[List.getD_eq_getElem?_getD,h0];rfl
    rw[hg]at h1
    exact .inr ⟨rfl,(Option.some.inj h1).symm⟩
   ·rw[if_neg e,h0]at h1
    exact .inl ⟨fun h=>e h.symm,(Option.some.inj h1).symm⟩
  refine .inr ⟨r,q,vs.toArray,rfl,setRow_heap w r arr _ ty (0,0) e2,e3,by simp[hvsl,e4],by omega,fun e' he'=> ?_,fun u hu=> ?_,fun i' e' j' x' u' a1 a2 a3=> ?_,e9,by omega⟩
  ·obtain ⟨i',hi'⟩:=List.getElem?_of_mem he'
   obtain ⟨e0,h1,h2⟩:=hel i' e' hi'
   have h3:=e6 e0 (List.mem_of_getElem? h1)
   rcases h2 with ⟨_,h2⟩|⟨_,h2⟩
   ·rw[h2];exact h3
   ·rw[h2];simp;omega
  ·have:u∈vs:=by simpa using hu
   rw[←hvs,List.append_assoc]at this
   rcases List.mem_append.1 this with h|h
   ·exact e7 u (by simpa using List.mem_of_mem_take h)
   ·rcases List.mem_append.1 h with h|h
    ·exact hyv.one u h
    ·exact e7 u (by simpa using List.mem_of_mem_drop h)
  ·obtain ⟨e0,h1,h2⟩:=hel i' e' a1
   have h3:=e6 e0 (List.mem_of_getElem? h1)
   have a3':vs[i'*es+j']? =some u':=by simpa using a3
   have hlen':(cs' e').length=es:=by
    rcases h2 with ⟨_,h2⟩|⟨_,h2⟩
    ·rw[h2];exact h3
    ·rw[h2];simp;omega
   have hj':j'<es:=by rw[←hlen'];exact (List.getElem?_eq_some_iff.1 a2).1
   rw[hget (i'*es+j'),hlv']at a3'
   have hold:∀x'',(cs e0)[j']? =some x''→arr.toList[i'*es+j']? =some u'→DR F (w.setRow r vs.toArray) x'' u':=fun x'' h4 h5=>(e8 i' e0 j' x'' u' h1 h4 (by simpa using h5)).keep hk
   rcases h2 with ⟨hne,h2⟩|⟨heq,h2⟩
   ·rw[h2]at a2
    refine hold x' a2 ?_
    rcases Nat.lt_or_gt_of_ne hne with hlt|hgt
    ·have:=blk_idx (es:=es) hlt hj'
     rw[if_pos (by omega)]at a3';exact a3'
    ·have h5:(i+1)*es≤i'*es:=Nat.mul_le_mul_right es hgt
     rw[Nat.succ_mul]at h5
     rw[if_neg (by omega),if_neg (by omega)]at a3';exact a3'
   ·subst heq
    rw[h2,splice_get (cs e0) ds f j' (by omega)]at a2
    by_cases c1:j'<f
    ·rw[if_pos c1]at a2
     rw[if_pos (by omega)]at a3'
     exact hold x' a2 a3'
    ·rw[if_neg c1]at a2
     rw[if_neg (by omega)]at a3'
     by_cases c2:j'<f+ds.length
     ·rw[if_pos c2]at a2
      rw[if_pos (by omega)]at a3'
      have h6:i'*es+j'-(i'*es+f)=j'-f:=by omega
      rw[h6]at a3'
      have h7:gs[j'-f]? =some (.d x'):=by rw[hgd,List.getElem?_map,a2];rfl
      have h8:=hyv.val (j'-f) _ u' h7 a3'
      cases h8 with
      |d h9=>exact h9.keep hk
     ·rw[if_neg c2]at a2
      rw[if_neg (by omega)]at a3'
      exact hold x' a2 a3'
end
end Go.Gh
namespace Go.Gh
open Go Go.RowKit
set_option linter.unusedVariables false
section
variable {P:Program} {T:Tab} {o:Oper} {ρ:Operand→G} {H:Hp}
theorem lop_loadBx [Laid] {t:TypeId} {x:Operand} (hT:TabOK P T) (ho:o.op= .load t x) {e:TyE} (te:tyAt T t=some e) {b es i f:Nat} (hρ:ρ x= .ptr b es i f) {cells:List G} (hH:H b=some (.box cells)) (ha:aggD e.desc=false)
 {g:G} (hg:cells[i*es+f]? =some g):LOp P o ρ H {g:=g,fp:=[b]} :=by
 have k:=hT _ _ te
 refine lop_pure fun H' hf ν F w a hv hr=> ?_
 have hH':=(hf b (by simp)).trans hH
 obtain ⟨r,q,vs,T',e1,e2,hc,_⟩:=(hr.blk b _ hH').box_cells
 have hv1:=hv x (by simp[ho,Op.operands])
 have exec':∀w v,(Instr.loadAt t (a.eval x)).run P w= .ok v w→(execOp a.eval o).run P w= .ok (.value v) w:=fun w v hv=>by simp only[execOp,ho,Sem.run_bind,hv,Result.andThen_ok,Sem.run_pure]
 rw[hρ]at hv1
 generalize a.eval x=u at hv1 exec'
 cases hv1 with
 |ptr _ _ _ _ r' k' he=>
 rw[e1]at he;injection he with he;injection he with he1 he2;subst he1
 obtain ⟨u,hu,hv⟩:=hc.at_ hg
 exact ⟨u,exec' w u (run_load_one k ha w r (i*es+f) u (by rw[cell_at e2];simpa using hu)),hv⟩
theorem lop_storeBx [Laid] {t:TypeId} {x y:Operand} (hT:TabOK P T) (ho:o.op= .store t x y) {e:TyE} (te:tyAt T t=some e) {b es i f:Nat} (hρ:ρ x= .ptr b es i f) {cells:List G} (hH:H b=some (.box cells)) (hsz:e.size=1)
 {g:G} (hgs:cellsG (ρ y)=some [g]) (hle:i*es+f<cells.length):LOp P o ρ H {g:= .junk,upd:=[(b,some (.box (cells.set (i*es+f) g)))],fp:=[b]} :=by
 have k:=hT _ _ te
 intro H' hf hn
 refine gop_skip fun ν F w a hv hr=> ?_
 have hH':=(hf b (by simp)).trans hH
 obtain ⟨r,q,arr,T',e1,e2,hc,hF⟩:=(hr.blk b _ hH').box_cells
 have hx:=hv x (by simp[ho,Op.operands])
 have hy:=(hv y (by simp[ho,Op.operands])).cells hgs
 rw[hρ]at hx
 obtain ⟨r',k',he,hxe⟩:=hx.ptr_inv
 rw[e1]at he;injection he with he;injection he with he1 he2;subst he1
 generalize i*es+f=f at*
 have hlen:arr.toList.length=cells.length:=hc.len
 have hsize:arr.size=arr.toList.length:=by simp
 have hlv:(a.eval y).cells.toList.length=e.size:=by rw[hy.len,hsz];rfl
 have hrun:=run_storeCells_at (P:=P) r f T' (a.eval y).cells.toList 0 arr w e2 (by rw[hlv];omega) hy.one
 refine ⟨w.setRow r (arr.toList.take (f+0)++(a.eval y).cells.toList++arr.toList.drop (f+0+(a.eval y).cells.toList.length)).toArray,?_,?_⟩
 ·have hcs:¬((a.eval y).cells.size≠e.size):=by
   have:(a.eval y).cells.size=(a.eval y).cells.toList.length:=by simp
   rw[this,hlv];simp
  simp only[execOp,ho,Instr.storeAt,hxe,Instr.sureAddr,Sem.run_bind,Sem.run_pure,Result.andThen_ok,storeVar,k.sizeOf w]
  rw[if_neg hcs]
  rw[hrun]
  rfl
 ·generalize hvs:(arr.toList.take (f+0)++(a.eval y).cells.toList++arr.toList.drop (f+0+(a.eval y).cells.toList.length))=vs
  have hk:Keep F w F (w.setRow r vs.toArray):=⟨fun _ _ h=>h,fun b' o' hb'=>by
   have hne:b'≠r:=fun e=>hF o' (e▸hb')
   simp only[World.cell?,setRow_other w r b' _ hne],fun b' o' hb'=>szAt_of (setRow_other w r b' _ (fun e=>hF o' (e▸hb')))⟩
  have hcr0:CR ν F w (cells.take f++ [g]++cells.drop (f+e.size)) vs:=by
   rw[←hvs,hlv]
   exact ((hc.take f).append hy).append (hc.drop (f+e.size))
  have hset:cells.take f++ [g]++cells.drop (f+e.size)=cells.set f g:=by
   rw[hsz,List.set_eq_take_append_cons_drop,if_pos hle];simp
  rw[hset]at hcr0
  have hcr:=hcr0.keep hk (More.refl _)
  exact hr.put hH' e1 (fun r' hr'=>setRow_other w r r' _ hr') (by simp[World.setRow]) (fun o ho'=>absurd ho' (hF o)) rfl rfl rfl (hcr.box (setRow_heap w r arr _ T' (0,0) e2) hF) (fun o ho'=>absurd ho' (hF o))
end
end Go.Gh
namespace Go.Gh
open Go Go.RowKit
set_option linter.unusedVariables false
def AllP:List Prop→Prop
 | []=>True
 | [p]=>p
 |p::q::l=>p∧AllP (q::l)
theorem AllP.cons {p:Prop} {l:List Prop} :AllP (p::l)↔p∧AllP l:=by
 cases l with
 |nil=>exact ⟨fun h=>⟨h,trivial⟩,fun h=>h.1⟩
 |cons q l=>exact Iff.rfl
def addP:Option Prop→List Prop→List Prop
 |none,l=>l
 |some p,l=>p::l
theorem addP_spec {o:Option Prop} {l:List Prop} (h:AllP (addP o l)):obP o∧AllP l:=by
 cases o with
 |none=>exact ⟨trivial,h⟩
 |some p=>exact AllP.cons.1 h
def catP:List Prop→List Prop→List Prop
 | [],l=>l
 |p::l',l=>p::catP l' l
theorem catP_spec:∀ {l l':List Prop},AllP (catP l l')→AllP l∧AllP l':=by
 intro l
 induction l with
 |nil=>intro l' h;exact ⟨trivial,h⟩
 |cons p l ih=>intro l' h;obtain ⟨h1,h2⟩:=AllP.cons.1 h;exact ⟨AllP.cons.2 ⟨h1,(ih h2).1⟩,(ih h2).2⟩
def row1 (b es len:Nat) (x:D):G→Option (List Prop×G)
 | .sl b' es' i n=>match Nat.beq b' b with
   |true=>match i,Nat.beq es' es with
    |0,true=>some ([n=len],.d x)
    |_,_=>none
   |false=>some ([],.sl b' es' i n)
 |g=>match g.nf with
  |some g=>some ([],g)
  |none=>none
def rowL1 (b es len:Nat) (x:D):List G→Option (List Prop×List G)
 | []=>some ([],[])
 |g::l=>match row1 b es len x g,rowL1 b es len x l with
  |some (p,g'),some (q,l')=>some (catP p q,g'::l')
  |_,_=>none
section
variable {ν:Nu} {F F':Fz} {w:World} {b es len:Nat} {x:D}
theorem row1_sound (hk:Keep F w F' w) (hd:∀v,VR ν F w (.sl b es 0 len) v→DR F' w x v) {g g':G} {p:List Prop} {v:Value} (h:row1 b es len x g=some (p,g')) (hp:AllP p) (hv:VR ν F w g v):VR ν F' w g' v:=by
 unfold row1 at h
 split at h
 ·rename_i b' es' i n
  split at h
  ·rename_i hb
   split at h
   ·rename_i he
    cases h
    have:=Nat.eq_of_beq_eq_true hb;subst this
    have:=Nat.eq_of_beq_eq_true he;subst this
    have hp:n=len:=hp
    subst hp
    exact .d (hd v hv)
   ·cases h
  ·cases h;exact hv.keep hk (More.refl _)
 ·split at h
  ·rename_i g1 hg
   cases h
   rw[G.nf_eq hg];exact hv.keep hk (More.refl _)
  ·cases h
theorem rowL1_sound (hk:Keep F w F' w) (hd:∀v,VR ν F w (.sl b es 0 len) v→DR F' w x v):∀ {l l':List G} {p:List Prop},rowL1 b es len x l=some (p,l')→AllP p→l'.length=l.length∧∀(j:Nat) g g' v,l[j]? =some g→l'[j]? =some g'→VR ν F w g v→VR ν F' w g' v:=by
 intro l
 induction l with
 |nil=>intro l' p h _;cases h;exact ⟨rfl,fun j g g' v e=>(by simp at e)⟩
 |cons g l ih=>
  intro l' p h hp
  simp only[rowL1]at h
  split at h
  ·rename_i p1 g1 p2 l1 h1 h2
   cases h
   obtain ⟨q1,q2⟩:=catP_spec hp
   obtain ⟨a1,a2⟩:=ih h2 q2
   refine ⟨by simp[a1],fun j g g' v e e' hv=> ?_⟩
   cases j with
   |zero=>simp at e e';subst e;subst e';exact row1_sound hk hd h1 q1 hv
   |succ j=>exact a2 j g g' v (by simpa using e) (by simpa using e') hv
  ·cases h
end
theorem Rel.retell [Laid] {ν:Nu} {F:Fz} {w:World} {H:Hp} (h:Rel ν F w H) {i:Nat} {b0 b1:Blk} (hi:H i=some b0) (hb:BR ν F w (ν i) b0→BR ν F w (ν i) b1):
 Rel ν F w (look [(i,some b1)] H)∧Evo ν F w H ν F w (look [(i,some b1)] H):=by
 have hsome:∀x,(look [(i,some b1)] H x).isSome=(H x).isSome:=fun x=>by
  by_cases e:x=i
  ·subst e;rw[look1_same,hi];rfl
  ·rw[look1_other e]
 refine ⟨⟨fun x y r k1 k2 hx hy ex ey=> ?_,fun x bl hx=> ?_,h.old,h.glob⟩,⟨Keep.refl _ _,rfl,rfl,rfl,Nat.le_refl _,fun _ _ _=>rfl,fun r hm=> .inl ?_,fun _ _ h=> .inl h⟩⟩
 ·rw[hsome]at hx hy;exact h.inj x y r k1 k2 hx hy ex ey
 ·by_cases e:x=i
  ·subst e;rw[look1_same]at hx;injection hx with hx;subst hx;exact hb (h.blk _ _ hi)
  ·rw[look1_other e]at hx;exact h.blk x bl hx
 ·obtain ⟨x,k,hx,ex⟩:=hm
  rw[hsome]at hx;exact ⟨x,k,hx,ex⟩
def PreU [Laid] (H:Hp) (u:List (Nat×Option Blk)):Prop:=(∀q,q∈u→(H q.1).isSome=true)∧
 ∀H':Hp,(∀q,q∈u→H' q.1=H q.1)→∀(ν:Nu) (F:Fz) (w:World),Rel ν F w H'→∃F1,Rel ν F1 w (look u H')∧Keep F w F1 w∧Evo ν F w H' ν F1 w (look u H')
theorem lop_pre [Laid] {P:Program} {o:Oper} {ρ:Operand→G} {H:Hp} {E:Eff} {u:List (Nat×Option Blk)} (hu:PreU H u) (h:LOp P o ρ (look u H) E):LOp P o ρ H {g:=E.g,upd:=apU E.upd u,fp:=u.map (·.1)++E.fp,new:=E.new} :=by
 intro H' hf hn ν F w a hv hr hnew
 obtain ⟨h1,h2⟩:=hu
 have hu':∀q,q∈u→H' q.1=H q.1:=fun q hq=>hf q.1 (List.mem_append_left _ (List.mem_map.2 ⟨q,hq,rfl⟩))
 obtain ⟨F1,r1,k1,e1⟩:=h2 H' hu' ν F w hr
 have hg:=h (look u H') (fun i hi=>look_congr u _ _ i (hf i (List.mem_append_right _ hi))) (fun i hi=>by
  by_cases hm:i∈u.map (·.1)
  ·obtain ⟨q,hq,rfl⟩:=List.mem_map.1 hm
   have h3:=h1 q hq
   rw[←hu' q hq,hn _ hi]at h3;cases h3
  ·rw[look_other _ _ _ hm];exact hn i hi) ν F1 w a (fun x hx=>(hv x hx).keep k1 (More.refl _)) r1 hnew
 refine Oper.wpX_mono (fun a' w' hh=> ?_) hg
 obtain ⟨ν',F',v,c1,c2,c3,c4,c5,c6⟩:=hh
 have e:look (apU E.upd u) H'=look E.upd (look u H'):=by rw[apU_eq,look_append]
 exact ⟨ν',F',v,c1,c2,by rw[e];exact c3,c4,c5,by rw[e];exact e1.trans c6⟩
def shareU (H:Hp) (b bx:Nat):Option (List Prop×List (Nat×Option Blk)):=
 match H b,H bx with
 |some (.row ty es df cs xs fz),some (.box gs)=>match rowL1 b es xs.length (.row df cs xs) gs with
  |some (p,gs')=>some (p,[(bx,some (.box gs')),(b,some (.row ty es df cs xs xs.length))])
  |none=>none
 |_,_=>none
theorem shareU_pre [Laid] {H:Hp} {b bx:Nat} {p:List Prop} {u:List (Nat×Option Blk)} (h:shareU H b bx=some (p,u)) (hp:AllP p):PreU H u:=by
 unfold shareU at h
 split at h
 ·rename_i α ty es df cs xs fz gs hb hx
  split at h
  ·rename_i p' gs' hg
   cases h
   refine ⟨fun q hq=> ?_,fun H' hq ν F w hr=> ?_⟩
   ·simp only[List.mem_cons,List.not_mem_nil,or_false]at hq
    rcases hq with rfl|rfl
    ·rw[hx];rfl
    ·rw[hb];rfl
   ·have hb':H' b=_:=(hq (b,_) (List.mem_cons_of_mem _ List.mem_cons_self)).trans hb
    have hx':H' bx=_:=(hq (bx,_) List.mem_cons_self).trans hx
    obtain ⟨F1,r1,k1,e1,_⟩:=hr.freeze hb'
    have hne:bx≠b:=fun e=>by subst e;rw[hb]at hx;cases hx
    have hrow:look [(b,some (Blk.row ty es df cs xs xs.length))] H' b=some (.row ty es df cs xs xs.length):=look1_same
    obtain ⟨l1,l2⟩:=rowL1_sound (Keep.refl F1 w) (fun v hv=>VR.row_data r1 hrow hv) hg hp
    obtain ⟨r2,e2⟩:=r1.retell (i:=bx) (b1:= .box gs') ((look1_other hne).trans hx') (fun hbr=>by
     obtain ⟨r,k,arr,T,c1,c2,c3,c4,c5,c6⟩:=hbr
     refine ⟨r,k,arr,T,c1,c2,by rw[c3,l1],c4,fun j g u hj hu=> ?_,c6⟩
     have hlt:j<gs.length:=by rw[←l1];exact (List.getElem?_eq_some_iff.1 hj).1
     exact l2 j gs[j] g u (List.getElem?_eq_getElem hlt) hj (c5 j _ u (List.getElem?_eq_getElem hlt) hu))
    rw[←look_append]at r2 e2
    exact ⟨F1,r2,k1,e1.trans e2⟩
  ·cases h
 ·cases h
def frzG (H:Hp):G→G
 | .opt c g=> .opt c (match arg2 H g with
   |some (_,g',_)=>g'
   |none=>g)
 | .ex _ g=> .opt true (match arg2 H (strip g)with
   |some (_,g',_)=>g'
   |none=>g)
 |g=>match arg2 H g with
  |some (_,g',_)=>g'
  |none=>g
def frzT (H:Hp):List (Nat×G)→List (Nat×G)
 | []=>[]
 |(t,g)::l=>(t,frzG H g)::frzT H l
theorem frzT_get (H:Hp):∀(l:List (Nat×G)) (t:Nat),getG (frzT H l) t=frzG H (getG l t):=by
 intro l
 induction l with
 |nil=>intro t;rfl
 |cons p l ih=>
  obtain ⟨k,g⟩:=p
  intro t
  simp only[frzT,getG]
  cases Nat.beq t k with
  |true=>rfl
  |false=>exact ih t
theorem args2_at {H:Hp} :∀(l l':List G) (p:Option Prop) (u:List (Nat×Option Blk)),args2 H l=some (p,l',u)→obP p→∀g,g∈l→∃p1 g' u1,arg2 H g=some (p1,g',u1)∧obP p1∧∀q,q∈u1→q∈u:=by
 intro l
 induction l with
 |nil=>intro l' p u _ _ g hg;cases hg
 |cons a l ih=>
  intro l' p u h hp g hg
  simp only[args2]at h
  split at h
  ·rename_i p1 g1 u1 p2 l2 u2 e1 e2
   cases h
   obtain ⟨q1,q2⟩:=andO_spec hp
   rcases List.mem_cons.1 hg with rfl|hg
   ·exact ⟨p1,g1,u1,e1,q1,fun q hq=>by rw[apU_eq];exact List.mem_append_left _ hq⟩
   ·obtain ⟨p3,g3,u3,a1,a2,a3⟩:=ih _ _ _ e2 q2 g hg
    exact ⟨p3,g3,u3,a1,a2,fun q hq=>by rw[apU_eq];exact List.mem_append_right _ (a3 q hq)⟩
  ·cases h
theorem lop_freeze [Laid] {P:Program} {o:Oper} {ρ ρ':Operand→G} {H:Hp} {E:Eff} {gs':List G} {p:Option Prop} {u:List (Nat×Option Blk)} (hu:args2 H (o.op.operands.toList.map ρ)=some (p,gs',u)) (hp:obP p) (hρ:∀x,x∈o.op.operands.toList→∀p1 g' u1,arg2 H (ρ x)=some (p1,g',u1)→ρ' x=g')
 (h:LOp P o ρ' (look u H) E):LOp P o ρ H {g:=E.g,upd:=apU E.upd u,fp:=u.map (·.1)++E.fp,new:=E.new} :=by
 obtain ⟨f1,_,_⟩:=args2_sound _ _ _ _ hu hp
 intro H' hf hn ν F w a hv hr hnew
 have hu':FzU H' u:=fun q hq=>by
  obtain ⟨ty,es,α,df,cs,xs,fz,e1,e2⟩:=f1 q hq
  exact ⟨ty,es,α,df,cs,xs,fz,(hf q.1 (List.mem_append_left _ (List.mem_map.2 ⟨q,hq,rfl⟩))).trans e1,e2⟩
 obtain ⟨F1,r1,k1,e1⟩:=freeze_u hr u hu'
 have hg:=h (look u H') (fun i hi=>look_congr u _ _ i (hf i (List.mem_append_right _ hi))) (fun i hi=>by
  by_cases hm:i∈u.map (·.1)
  ·obtain ⟨q,hq,rfl⟩:=List.mem_map.1 hm
   obtain ⟨ty,es,α,df,cs,xs,fz,e1,e2⟩:=hu' q hq
   have:=hn q.1 hi
   rw[e1]at this;cases this
  ·rw[look_other _ _ _ hm];exact hn i hi) ν F1 w a (fun x hx=>by
   obtain ⟨p1,g',u1,a1,a2,a3⟩:=args2_at _ _ _ _ hu hp (ρ x) (List.mem_map.2 ⟨x,hx,rfl⟩)
   rw[hρ x hx p1 g' u1 a1]
   exact (arg2_sound a1 a2).2 ν F1 w (look u H') _ r1 (fun q hq=>look_u hu' q (a3 q hq)) ((hv x hx).keep k1 (More.refl _))) r1 hnew
 refine Oper.wpX_mono (fun a' w' hh=> ?_) hg
 obtain ⟨ν',F',v,c1,c2,c3,c4,c5,c6⟩:=hh
 have e:look (apU E.upd u) H'=look E.upd (look u H'):=by rw[apU_eq,look_append]
 exact ⟨ν',F',v,c1,c2,by rw[e];exact c3,c4,c5,by rw[e];exact e1.trans c6⟩
end Go.Gh
