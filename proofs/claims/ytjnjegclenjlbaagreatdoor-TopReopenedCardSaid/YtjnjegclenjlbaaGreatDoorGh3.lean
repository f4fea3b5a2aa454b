/- A logic of calls without memory (3 of 3). -/
import Derived.Test.YtjnjegclenjlbaaGreatDoorGh2
import Derived.KernelRfl
import Derived.Lib.LaidTab
import Derived.Lib.SliceRun
namespace Go.Gh
open Go Go.RowKit
set_option linter.unusedVariables false
def oneL:List D→List (List D)
 | []=>[]
 |x::l=>[x]::oneL l
theorem oneL_eq (l:List D):oneL l=l.map fun x=>[x]:=by
 induction l with
 |nil=>rfl
 |cons v l ih=>simp[oneL,ih]
section
variable {P:Program} {T:Tab} {o:Oper} {ρ:Operand→G} {H:Hp}
theorem lop_allocArr [Laid] {t:TypeId} (hT:TabOK P T) (ho:o.op= .alloc t) {e:TyE} (te:tyAt T t=some e) (hz1:allOne e.zero=true) (nx:Nat) {α:Type} {df:α} {cs:α→List D} {zs:List α} (hp:zs.length≤1000000∧rowL cs zs=oneL (scD e.zero.cells.toList)):
 LOp P o ρ H {g:= .ptr nx 1 0 0,upd:=[(nx,some (.row t 1 df cs zs 0))],new:=[nx]} :=by
 obtain ⟨p1,p2⟩:=hp
 intro H' _ hn
 refine gop_val fun ν F w a hv hr hnew=> ?_
 have hν:=hnew nx (by simp)
 have hrun:(execOp a.eval o).run P w= .ok (.value (.pointer (some ⟨w.heap.size,0,none⟩))) (w.alloc (.cells e.zero.cells t)):=by
  have:=(hT _ _ te).zeroV w
  have k:=run_newVar (P:=P) t e.zero w
  simp only[Sem.run_bind,Sem.run_pure]at k
  simp only[execOp,ho,Instr.alloc,Sem.run_bind,this,Result.andThen_ok,k,Sem.run_pure]
 have hzone:∀u,u∈e.zero.cells.toList→u.oneCell'=true:=by simp only[allOne,List.all_eq_true]at hz1;exact hz1
 generalize e.zero.cells=vs at hrun p2 hzone
 rw[oneL_eq,scD_eq,List.map_map]at p2
 have hlen:zs.length=vs.size:=by
  have:=congrArg List.length p2
  simpa [rowL]using this
 have hat:∀(i:Nat) d,(rowL cs zs)[i]? =some d→∃u,vs[i]? =some u∧d= [.sc u]:=fun i d h=>by
  rw[p2,List.getElem?_map]at h
  cases hu:vs.toList[i]? with
  |none=>rw[hu]at h;cases h
  |some u=>rw[hu]at h;cases h;exact ⟨u,by simpa using hu,rfl⟩
 have hfr:FR F (w.alloc (.cells vs t)) 1 (rowL cs zs) vs.toList:=by
  refine ⟨by rw[p2];simp,hzone,fun i d h=> ?_,fun i d j x u h hx hu=> ?_⟩
  ·obtain ⟨u,_,rfl⟩:=hat i d h;rfl
  ·obtain ⟨u',h1,rfl⟩:=hat i d h
   have hj:j=0:=by have:=(List.getElem?_eq_some_iff.1 hx).1;simpa using this
   subst hj
   simp at hx hu
   rw[h1]at hu;cases hu;subst hx
   exact .sc _ (hzone _ (by simpa using Array.mem_of_getElem? h1))
 have hw':(w.alloc (.cells vs t)).heap[w.heap.size]? =some (.cells vs t (0,0)):=heap_alloc_new w _
 have hbr:BR (addNu ν nx w.heap.size vs.size) F (w.alloc (.cells vs t)) (some (w.heap.size,vs.size)) (.row t 1 df cs zs 0):=by
  refine hfr.BR hw' (by unfold maxLen;omega) (by omega) (by omega) ?_ hzone (fun o=>⟨fun ho=>by have:=hr.old_lt ho;omega,fun ho=>by omega⟩) (by simp)
  rw[hlen,List.take_of_length_le (by simp)]
 obtain ⟨r1,r2⟩:=hr.add hν (hn nx (by simp)) _ hbr
 refine ⟨_,_,addNu ν nx w.heap.size vs.size,F,hrun,?_,r1,More.add hν,fun i hi=> ?_,r2⟩
 ·have:=VR.ptr (F:=F) (w:=w.alloc (.cells vs t)) nx 1 0 0 w.heap.size vs.size (addNu_same ν nx w.heap.size vs.size)
  simpa using this
 ·by_cases e:i=nx
  ·simp[e]
  ·exact absurd (addNu_other ν e) hi
theorem lop_indexArr [Laid] {t:TypeId} {x y:Operand} (hT:TabOK P T) (ho:o.op= .indexAddr t x y) {e:TyE} (te:tyAt T t=some e) {len:Nat} {el:TypeId} (hd:e.desc= .array len el) {ee:TyE} (tee:tyAt T el=some ee) {k:IntKind} {n:Int} (hy:idxOf (ρ y)=some (k,n))
 {b es:Nat} (hx:ρ x= .ptr b es 0 0) (hp:0≤n∧n<len):LOp P o ρ H {g:= .ptr b ee.size n.toNat 0} :=by
 have kt:=hT _ _ te
 have ke:=hT _ _ tee
 refine lop_pure fun H' _ ν F w a hv hr=> ?_
 have hye:=idxOf_sound hy (hv y (by simp[ho,Op.operands]))
 have hxv:=hv x (by simp[ho,Op.operands])
 rw[hx]at hxv
 obtain ⟨r,k',he,hxe⟩:=hxv.ptr_inv
 refine ⟨.pointer (some ⟨r,n.toNat*ee.size+0,none⟩),?_,.ptr b ee.size n.toNat 0 r k' he⟩
 simp only[Nat.zero_mul,Nat.zero_add]at hxe
 have hcond:(0≤n∧n<(len:Int)):=hp
 simp only[execOp,ho,Instr.indexAt,Sem.run_bind,hye,asIntOf,Sem.run_pure,Result.andThen_ok,kt.under w,hd,hxe,Instr.sureAddr,if_pos hcond,ke.sizeOf w,addr_add,Nat.zero_add,Nat.add_zero]
theorem lop_sliceArr [Laid] {t:TypeId} {x:Operand} {hi:Option Operand} (hT:TabOK P T) (ho:o.op= .slice t x none hi none) {e:TyE} (te:tyAt T t=some e) {len:Nat} {el:TypeId} (hd:e.desc= .array len el) {ee:TyE} (tee:tyAt T el=some ee) {h:Option Int} (hh:optI (hi.map ρ)=some h)
 {b es:Nat} (hx:ρ x= .ptr b es 0 0) {ty:Nat} {α:Type} {df:α} {cs:α→List D} {xs:List α} {fz:Nat} (hb:H b=some (.row ty 1 df cs xs fz)) (hp:0≤hiI len h∧hiI len h≤len∧len=xs.length):
 LOp P o ρ H {g:= .d (.row df cs (xs.take (hiI len h).toNat)),upd:=[(b,some (.row ty 1 df cs xs xs.length))],fp:=[b]} :=by
 have kt:=hT _ _ te
 have ke:=hT _ _ tee
 obtain ⟨p1,p2,p3⟩:=hp
 intro H' hf hn
 refine gop_val fun ν F w a hv hr hnew=> ?_
 have hH':=(hf b (by simp)).trans hb
 obtain ⟨F',f1,f2,f3,f4⟩:=hr.freeze hH'
 have hxv:=hv x (by simp[ho,Op.operands])
 rw[hx]at hxv
 obtain ⟨r',k',he,hxe⟩:=hxv.ptr_inv
 simp only[Nat.zero_mul,Nat.zero_add]at hxe
 have vy:∀z,hi=some z→VR ν F w (ρ z) (a.eval z):=fun z hz=>hv z (by simp[ho,Op.operands,hz])
 have hbd:=run_bounds (P:=P) (x:=none) (lo:=none) (isS:=false) (len:=len) (cap:=len) rfl hh (fun z hz=>by cases hz) vy (by simp[loI]) (by simpa [loI]using p1) p2 (Nat.le_refl _)
 rcases hr.blk b _ hH' with ⟨e1,_⟩|⟨r,k,arr,e,k1,k1',k2,k3,k4,k5,k6,k7,k8⟩
 ·rw[he]at e1;cases e1
 rw[he]at e;injection e with e;injection e with e2 e3;subst e2
 generalize hN:(hiI len h).toNat=N at*
 have hNx:N≤xs.length:=by omega
 have hlen:(xs.take N).length=N:=by rw[List.length_take];omega
 have hsz:xs.length*1≤arr.size:=by rw[k2];exact Nat.mul_le_mul_right 1 k3
 refine ⟨.slice (some ⟨r',0,none⟩) N len,w,ν,F',?_,?_,f1,More.refl _,fun i hi=>absurd rfl hi,f3⟩
 ·have hbd':(Instr.sliceBounds false len len none (hi.map a.eval) none).run P w= .ok (0,N,len) w:=by
   have:(loI none).toNat=0:=rfl
   rw[this]at hbd
   exact hbd
  simp only[execOp,ho,Instr.sliceAt,Sem.run_bind,Sem.run_pure,Result.andThen_ok,kt.under w,hd,hxe,Instr.sureAddr,Option.map_none,hbd',ke.sizeOf w,addr_add,Nat.zero_mul,Nat.add_zero,Nat.sub_zero]
  split<;>rfl
 ·refine .d ?_
  have hget:∀(i:Nat) z,(xs.take N)[i]? =some z→xs[i]? =some z:=fun i z h=>by
   rw[List.getElem?_take]at h
   split at h
   ·exact h
   ·cases h
  have hlt:∀(i:Nat) z (j:Nat) y,xs[i]? =some z→(cs z)[j]? =some y→i*1+j<xs.length*1:=fun i z j y a b=>by
   have hi:=(List.getElem?_eq_some_iff.1 a).1
   have hj:=(List.getElem?_eq_some_iff.1 b).1
   rw[k4 z (List.mem_of_getElem? a)]at hj
   exact blk_idx hi hj
  have:=DR.row (F:=F') (w:=w) df cs (xs.take N) (some ⟨r',0,none⟩) len r' 0 1 (fun i j=>arr.getD (i*1+j) undef) (fun _=>rfl) (by rw[hlen];omega) (fun z hz=>k4 z (List.mem_of_mem_take hz))
   (fun i z j y a b=> ?_) (fun i z j y a b=> ?_) (fun i z j y a b=> ?_)
  ·rw[hlen]at this;exact this
  ·have:=hlt i z j y (hget i z a) b
   have hq:i*1+j<arr.size:=by omega
   rw[Nat.zero_add,cell_at k1]
   generalize i*1+j=q at hq
   simp[Array.getD,hq]
  ·have:=hlt i z j y (hget i z a) b
   rw[Nat.zero_add]
   exact f4 r' k' he _ this
  ·have hl:=hlt i z j y (hget i z a) b
   have hu:arr[i*1+j]? =some (arr.getD (i*1+j) undef):=by
    have hq:i*1+j<arr.size:=by omega
    generalize i*1+j=q at hq
    simp[Array.getD,hq]
   exact (k6 i z j y _ (hget i z a) b hu).keep f2
end
end Go.Gh
namespace Go.Gh
open Go Go.RowKit
set_option linter.unusedVariables false
section
variable {P:Program} {T:Tab} {o:Oper} {ρ:Operand→G} {H:Hp}
theorem lop_sliceEp [Laid] {t:TypeId} {x:Operand} (hT:TabOK P T) (ho:o.op= .slice t x none none none) {e:TyE} (te:tyAt T t=some e) {len:Nat} {el:TypeId} (hd:e.desc= .array len el) {ee:TyE} (tee:tyAt T el=some ee)
 {cells:List D} (hx:ρ x= .ep cells) {α:Type} {df:α} {cs:α→List D} {zs:List α} (h1:ee.size=1) (hp:len=cells.length∧rowL cs zs=oneL cells):
 LOp P o ρ H {g:= .d (.row df cs zs)} :=by
 have kt:=hT _ _ te
 have ke:=hT _ _ tee
 obtain ⟨p1,p2⟩:=hp
 have hzl:zs.length=cells.length:=by
  have:=congrArg List.length p2
  simpa [rowL,oneL_eq]using this
 have hat:∀(i:Nat) z,zs[i]? =some z→∃y,cells[i]? =some y∧cs z= [y]:=fun i z hz=>by
  have e1:(rowL cs zs)[i]? =some (cs z):=by simp[rowL,hz]
  rw[p2,oneL_eq,List.getElem?_map,Option.map_eq_some_iff]at e1
  obtain ⟨y,a,b⟩:=e1
  exact ⟨y,a,b.symm⟩
 refine lop_pure fun H' _ ν F w a hv hr=> ?_
 have hxv:=hv x (by simp[ho,Op.operands])
 rw[hx]at hxv
 obtain ⟨b,off,val,hxe,hw,hF,hD⟩:=hxv.ep_inv
 have vy:∀z,(none:Option Operand)=some z→VR ν F w (ρ z) (a.eval z):=fun z hz=>by cases hz
 have hbd:=run_bounds (P:=P) (a:=a) (w:=w) (x:=none) (y:=none) (lo:=none) (hi:=none) (isS:=false) (len:=len) (cap:=len) rfl rfl vy vy (by simp[loI]) (by simp[loI,hiI]) (by simp[hiI]) (Nat.le_refl _)
 refine ⟨.slice (some ⟨b,off,none⟩) len len,?_,?_⟩
 ·have hbd':(Instr.sliceBounds false len len none none none).run P w= .ok (0,len,len) w:=by
   have:(loI none).toNat=0:=rfl
   rw[this]at hbd
   simpa [hiI]using hbd
  simp only[execOp,ho,Instr.sliceAt,Sem.run_bind,Sem.run_pure,Result.andThen_ok,kt.under w,hd,hxe,Instr.sureAddr,Option.map_none,hbd',ke.sizeOf w,addr_add,Nat.zero_mul,Nat.add_zero,Nat.sub_zero]
  split<;>rfl
 ·refine .d ?_
  have hidx:∀(i:Nat) z (j:Nat) y,zs[i]? =some z→(cs z)[j]? =some y→j=0∧cells[i]? =some y:=fun i z j y a b=>by
   obtain ⟨y',c1,c2⟩:=hat i z a
   rw[c2]at b
   cases j with
   |zero=>simp only[List.getElem?_cons_zero,Option.some.injEq]at b;subst b;exact ⟨rfl,c1⟩
   |succ j=>simp at b
  have:=DR.row (F:=F) (w:=w) df cs zs (some ⟨b,off,none⟩) len b off 1 (fun i j=>val (i*1+j)) (fun _=>rfl) (by omega) (fun z hz=>by
   obtain ⟨i,hi⟩:=List.getElem?_of_mem hz
   obtain ⟨y,_,c⟩:=hat i z hi
   rw[c];rfl)
   (fun i z j y c d=> ?_) (fun i z j y c d=> ?_) (fun i z j y c d=> ?_)
  ·rw[show len=zs.length by omega]
   rw[show len=zs.length by omega]at this
   exact this
  all_goals
   obtain ⟨rfl,h2⟩:=hidx i z j y c d
   simp only[Nat.mul_one,Nat.add_zero]
  ·exact hw i y h2
  ·exact hF i y h2
  ·exact hD i y h2
end
end Go.Gh
namespace Go.Gh
open Go Go.RowKit
set_option linter.unusedVariables false
structure Env (P:Program) (T:Tab):Prop where
 ty:TabOK P T
 mix:P.follows .mixedOrders=true
inductive Hint [Laid] (P:Program):Type 1
 |call {k:FuncId} {args:List G} {g:G} (h:GC P k args g)
 |el {α:Type} (df:α) (cs:α→List D) (zs:List α)
 |look (v:Value) (ok:Bool)
 |mp (L:List (Value×Value))
 |eq {t:TypeId} {us vs:List Value} {b:Bool} (h:EqC P t us vs b)
 |str (s:ByteArray)
 |inv {t:TypeId} {name:String} {k:FuncId} (hi:Inv P t name k) {args:List G} {g:G} (h:GC P k args g)
 |cell (g:G)
 |arr {α:Type} (df:α) (cs:α→List D) (zs:List α)
 |no
 |nu
 |nb
 |fz
 |bx (g:G)
 |bs
 |sh (b bx:Nat)
 |callq {Q:Prop} {k:FuncId} {args:List G} {g:G} (h:Q→GC P k args g)
 |callm {k:FuncId} {args:List G} {bs:List Blk} {g:G} {bs':List (Option Blk)} (ren:List Nat) (h:GM P k args bs g bs')
def strO [Laid] (c:Bool) (σ:St):List Operand→Option (List Prop)
 | []=>some []
 |x::l=>match σ.ev x with
  | .opt c' _=>match strO c σ l with
    |some p=>some ((c=true→c'=true)::p)
    |none=>none
  |_=>strO c σ l
theorem strO_at [Laid] {c:Bool} {σ:St} :∀(l:List Operand) (p:List Prop),strO c σ l=some p→AllP p→∀x,x∈l→stripOk c (σ.ev x):=by
 intro l
 induction l with
 |nil=>intro p _ _ x hx;cases hx
 |cons a l ih=>
  intro p h hp x hx
  simp only[strO]at h
  split at h
  ·rename_i c' g hg
   split at h
   ·rename_i p' hp'
    cases h
    obtain ⟨q1,q2⟩:=AllP.cons.1 hp
    rcases List.mem_cons.1 hx with rfl|hx
    ·rw[hg];exact q1
    ·exact ih p' hp' q2 x hx
   ·cases h
  ·rename_i hno
   rcases List.mem_cons.1 hx with rfl|hx
   ·cases hg:σ.ev x<;>first|exact trivial|skip
    rename_i c' g
    exact absurd hg (hno c' g)
   ·exact ih p h hp x hx
def opA [Laid] (σ:St) (x:Operand):G:=strip (σ.ev x)
def opO [Laid] (σ:St) (x:Operand):Option G:=(strip (σ.ev x)).nf
theorem opO_eq [Laid] {σ:St} {x:Operand} {g:G} (h:opO σ x=some g):opA σ x=g:=(G.nf_eq h).symm
def opsO [Laid] (σ:St):List Operand→Option (List G)
 | []=>some []
 |x::l=>match opO σ x,opsO σ l with
  |some g,some gs=>some (g::gs)
  |_,_=>none
theorem opsO_eq [Laid] {σ:St} :∀(l:List Operand) (gs:List G),opsO σ l=some gs→l.map (opA σ)=gs:=by
 intro l
 induction l with
 |nil=>intro gs h;simp only[opsO,Option.some.injEq]at h;exact h
 |cons x l ih=>
  intro gs h
  simp only[opsO]at h
  split at h
  ·rename_i g gs' h1 h2
   cases h
   rw[List.map_cons,opO_eq h1,ih _ h2]
  ·cases h
def partsO [Laid] (σ:St):List (Nat×Operand)→Option (List (Nat×G))
 | []=>some []
 |(i,x)::l=>match opO σ x,partsO σ l with
  |some g,some gs=>some ((i,g)::gs)
  |_,_=>none
theorem partsO_eq [Laid] {σ:St} :∀(l:List (Nat×Operand)) (gs:List (Nat×G)),partsO σ l=some gs→l.map (fun p=>(p.1,opA σ p.2))=gs:=by
 intro l
 induction l with
 |nil=>intro gs h;simp only[partsO,Option.some.injEq]at h;exact h
 |cons p l ih=>
  obtain ⟨i,x⟩:=p
  intro gs h
  simp only[partsO]at h
  split at h
  ·rename_i g gs' h1 h2
   cases h
   rw[List.map_cons,opO_eq h1,ih _ h2]
  ·cases h
abbrev OpR [Laid] (P:Program):=Option (Option Prop×Eff×List (Hint P))
def fstL:List (Nat×Option Blk)→List Nat
 | []=>[]
 |x::l=>x.1::fstL l
theorem fstL_eq (l:List (Nat×Option Blk)):fstL l=l.map (·.1):=by
 induction l with
 |nil=>rfl
 |cons x l ih=>simp[fstL,ih]
def apN:List Nat→List Nat→List Nat
 | [],l=>l
 |x::k,l=>x::apN k l
theorem apN_eq (k l:List Nat):apN k l=k++l:=by
 induction k with
 |nil=>rfl
 |cons x k ih=>simp[apN,ih]
def callR [Laid] (P:Program) (σ:St) (f:Operand) (args:List Operand) (hs:List (Hint P)):OpR P:=
 match hs with
 | .call (k:=k') (args:=gs') (g:=g) h::hs=>match opO σ f,opsO σ args with
   |some gf,some ga=>match calleeG gf ga with
    |some (k,gs)=>match args2 σ.H gs with
     |some (p,gd,u)=>bif Nat.beq k k' then some (andO p (some (EntL gd gs')), {g:=g,upd:=u,fp:=fstL u},hs)else none
     |none=>none
    |none=>none
   |_,_=>none
 | .callq (Q:=Q) (k:=k') (args:=gs') (g:=g) h::hs=>match opO σ f,opsO σ args with
   |some gf,some ga=>match calleeG gf ga with
    |some (k,gs)=>match args2 σ.H gs with
     |some (p,gd,u)=>bif Nat.beq k k' then some (andO p (some (Q∧EntL gd gs')), {g:=g,upd:=u,fp:=fstL u},hs)else none
     |none=>none
    |none=>none
   |_,_=>none
 | .callm (k:=k') (args:=gs') (bs:=bs) (g:=g) (bs':=bs') ren h::hs=>match opO σ f,opsO σ args with
   |some gf,some ga=>match calleeG gf ga with
    |some (k,gs)=>match args2 (hideH ren σ.H) gs with
     |some (p,gd,u)=>bif Nat.beq k k'&&okM ren σ.next gs' bs&&Nat.ble bs.length bs'.length then match blksM (look u σ.H) ren with
      |some b0=>some (andO p (some (EntL gd (G.renL (rhoM ren σ.next) gs')∧BEntL b0 (renBL (rhoM ren σ.next) bs))), {g:=g.ren (rhoM ren σ.next),upd:=apU (updM (rhoM ren σ.next) 0 bs') u,fp:=apN ren (fstL u),new:=newL σ.next (bs'.length-bs.length)},hs)
      |none=>none
      else none
     |none=>none
    |none=>none
   |_,_=>none
 |_=>none
def obFp:Option Nat→List Nat
 |none=>[]
 |some b=>[b]
def appendR [Laid] (P:Program) (T:Tab) (σ:St) (x y:Operand) (t tx:TypeId) (hs:List (Hint P)):OpR P:=
 match hs with
 | .el df cs zs::hs=>
   match tyAt T t,tyAt T tx with
   |some te,some xe=>
    match te.desc,xe.desc with
    | .slice el,.slice _=>
      match tyAt T el with
      |some ee=>
       bif Nat.ble 1 ee.size&&Nat.ble 1 ee.bytes&&allOne ee.zero&&Nat.beq ee.zero.cells.size ee.size then
        match dstL el ee.size (opA σ x) σ.H,srcL (opA σ y) σ.H with
        |some (pd,Ld,n,ob,fz),some (ps,Ls,m,fp)=>
         some (some ((pd∧ps)∧(n+m)*ee.bytes≤140737488355328∧rowL cs zs=Ld++Ls∧zs.length=n+m∧(∀z,z∈zs→(cs z).length=ee.size)),
          {g:= .sl σ.next ee.size 0 (n+m),upd:=(σ.next,some (.row el ee.size df cs zs fz))::delO ob,fp:=obFp ob++fp,new:=[σ.next]},hs)
        |_,_=>none
       else none
      |none=>none
    |_,_=>none
   |_,_=>none
 |_=>none
def elemSize (T:Tab):TypeDesc→Option Nat
 | .slice el=>match tyAt T el with
   |some ee=>some ee.size
   |none=>none
 |_=>some 0
def lookR [Laid] (P:Program) (T:Tab) (σ:St) (t:TypeId) (x y:Operand) (c:Bool) (hs:List (Hint P)):OpR P:=
 match hs with
 | .look v ok::hs=>match opO σ x,opA σ y,tyAt T t with
   |some (.mp b),.d (.sc k),some e=>match mapDesc e.desc,σ.H b with
    |some (kt,et),some (.mp L)=>match tyAt T kt,tyAt T et with
     |some ke,some ee=>bif keyFit ke.desc k&&v.oneCell' then some (some (lookP k L ee.zero v ok), {g:=bif c then .tup [.d (.sc v),.d (.sc (.bool ok))]else .d (.sc v),fp:=[b]},hs)else none
     |_,_=>none
    |_,_=>none
   |_,_,_=>none
 |_=>none
def mapR [Laid] (P:Program) (T:Tab) (σ:St) (t:TypeId) (x y z:Operand) (hs:List (Hint P)):OpR P:=
 match hs with
 | .mp L'::hs=>match opO σ x,opA σ y,opA σ z,tyAt T t with
   |some (.mp b),.d (.sc k),.d (.sc v),some e=>match mapDesc e.desc,σ.H b with
    |some (kt,et),some (.mp L)=>match tyAt T kt with
     |some ke=>bif keyFit ke.desc k then some (some (mput k v L=some L'), {g:= .junk,upd:=[(b,some (.mp L'))],fp:=[b]},hs)else none
     |_=>none
    |_,_=>none
   |_,_,_,_=>none
 |_=>none
def cvtR [Laid] (P:Program) (wr:Bool) (T:Tab) (σ:St) (src dst:TypeId) (x:Operand) (hs:List (Hint P)):OpR P:=
 match tyAt T src,tyAt T dst,opA σ x with
 |some e1,some e,.d (.sc u)=>match convG wr e.desc u with
  |some (pr,r)=>some (pr, {g:= .d (.sc r)},hs)
  |none=>match e1.desc,e.desc,u,hs with
   | .string,.slice el,.string s,.el df cs zs::hs=>match tyAt T el with
     |some ee=>match ee.desc with
      | .int .u8=>some (some (rowL cs zs=byteL s), {g:= .d (.row df cs zs)},hs)
      |_=>none
     |none=>none
   |_,_,_,_=>none
 |some e1,some e,g=>match e1.desc,e.desc,hs with
  | .slice el,.string,.str s::hs=>match tyAt T el with
    |some ee=>match ee.desc,srcL g σ.H with
     | .int .u8,some (pr,L,_,fp)=>some (some (pr∧L=byteL s), {g:= .d (.sc (.string s)),fp:=fp},hs)
     |_,_=>none
    |none=>none
  |_,_,_=>none
 |_,_,_=>none
def extG [Laid] (P:Program) (T:Tab) (σ:St) (o:Oper) (hs:List (Hint P)):OpR P:=
 match o.op with
 | .makeInterface t x=>match tyAt T t,opO σ x with
   |some e,some g=>bif notIface e.desc then some (none, {g:= .iface t g},hs)else none
   |_,_=>none
 | .nilCheck x=>match opO σ x with
   |some g=>bif somePtr g then some (none, {g:=g},hs)else none
   |none=>none
 | .makeSlice t x y=>match tyAt T t with
   |some te=>match te.desc with
    | .slice el=>match tyAt T el with
      |some ee=>bif allOne ee.zero&&Nat.beq ee.zero.cells.size ee.size&&Nat.ble 1 ee.size then
       match idxOf (opA σ x),idxOf (opA σ y),hs with
       |some (_,n),some (_,m),.el df cs zs::hs=>some (some (n=m∧0≤n∧(ee.bytes:Int)*n≤281474976710656∧n≤9223372036854775807∧rowL cs zs=List.replicate n.toNat (scD ee.zero.cells.toList)), {g:= .sl σ.next ee.size 0 n.toNat,upd:=[(σ.next,some (.row el ee.size df cs zs 0))],new:=[σ.next]},hs)
       |_,_,_=>none
       else none
      |none=>none
    |_=>none
   |none=>none
 | .call {callee:= .invoke f name,args:=args,argTypes:=_} =>match hs with
   | .inv (t:=t) (name:=nm) (k:=k) (args:=gs') (g:=g) hi h::hs=>match opO σ f,opsO σ args.toList with
     |some (.iface t' gx),some ga=>match args2 σ.H (gx::ga)with
      |some (p,gd,u)=>bif Nat.beq t t' then some (andO p (some (nm=name∧EntL gd gs')), {g:=g,upd:=u,fp:=fstL u},hs)else none
      |none=>none
     |_,_=>none
   |_=>none
 | .store t x y=>match tyAt T t,opA σ x with
   |some e,.ptr b es i f=>match σ.H b with
    |some (.row ty es' df cs xs fz)=>match cellsG (opA σ y)with
     |some gs=>match dLO gs,hs with
      |some ds,.el df' cs' zs::hs=>bif Nat.beq es es'&&Nat.beq gs.length e.size then
       some (some (fz≤i∧i<xs.length∧f+ds.length≤es'∧rowL cs' zs=putD (rowL cs xs) i f ds), {g:= .junk,upd:=[(b,some (.row ty es' df' cs' zs fz))],fp:=[b]},hs)
       else none
      |_,_=>none
     |none=>none
    |_=>none
   |_,_=>none
 | .index t x y=>match tyAt T t with
   |some e=>match e.desc with
    | .array len el=>match tyAt T el with
      |some ee=>match idxOf (opA σ y),opA σ x,hs with
       |some (_,n),.agg gs,.cell g::hs=>bif Nat.beq ee.size 1&& !aggD ee.desc then some (some (0≤n∧n<len∧gs[n.toNat]? =some g), {g:=g},hs)else none
       |_,_,_=>none
      |none=>none
    |_=>none
   |none=>none
 | .insert t x y z=>mapR P T σ t x y z hs
 |_=>none
theorem extG_sound [Laid] {P:Program} {T:Tab} (hT:TabOK P T) {σ:St} {o:Oper} {hs hs':List (Hint P)} {pr:Option Prop} {E:Eff} (h:extG P T σ o hs=some (pr,E,hs')) (hp:obP pr):LOp P o (opA σ) σ.H E:=by
 unfold extG at h
 split at h
 ·rename_i t x ho
  split at h
  ·rename_i e g te hx
   cases hn:notIface e.desc with
   |false=>rw[hn]at h;cases h
   |true=>
    rw[hn]at h;cases h
    rw[←opO_eq hx]
    exact lop_iface hT ho te hn
  ·cases h
 ·rename_i x ho
  split at h
  ·rename_i g hx
   cases hn:somePtr g with
   |false=>rw[hn]at h;cases h
   |true=>
    rw[hn]at h;cases h
    rw[←opO_eq hx]at hn⊢
    exact lop_nilCheck ho hn
  ·cases h
 ·rename_i t x y ho
  split at h
  ·rename_i te h1
   split at h
   ·rename_i el hd
    split at h
    ·rename_i ee h2
     cases hb:(allOne ee.zero&&Nat.beq ee.zero.cells.size ee.size&&Nat.ble 1 ee.size)with
     |false=>rw[hb]at h;cases h
     |true=>
      rw[hb]at h
      simp only[cond_true]at h
      simp only[Bool.and_eq_true]at hb
      split at h
      ·rename_i kl n kc m α df cs zs hs1 hx hy
       cases h
       exact lop_make hT ho h1 hd h2 hb.1.1 hb.1.2 hb.2 hx hy _ hp
      ·cases h
    ·cases h
   ·cases h
  ·cases h
 ·rename_i f name args tys ho
  split at h
  ·rename_i t nm k hi gs' g h2 hs1
   split at h
   ·rename_i t' gx ga hf hga
    split at h
    ·rename_i p gd u hu
     cases hk:Nat.beq t t' with
     |false=>rw[hk]at h;cases h
     |true=>
      rw[hk]at h
      cases h
      have:=Nat.eq_of_beq_eq_true hk
      subst this
      obtain ⟨p1,p2⟩:=andO_spec hp
      obtain ⟨rfl,p2⟩:=(p2:nm=name∧EntL gd gs')
      rw[fstL_eq]
      rw[←opsO_eq _ _ hga]at hu
      exact lop_invoke ho (opO_eq hf) hi hu p1 p2 h2
    ·cases h
   ·cases h
  ·cases h
 ·rename_i t x y ho
  split at h
  ·rename_i e b es i f te hx
   split at h
   ·rename_i α ty es' df cs xs fz hb
    split at h
    ·rename_i gs hgs
     split at h
     ·rename_i ds β df' cs' zs hs1 hds
      cases hk:(Nat.beq es es'&&Nat.beq gs.length e.size)with
      |false=>rw[hk]at h;cases h
      |true=>
       rw[hk]at h
       cases h
       simp only[Bool.and_eq_true]at hk
       exact lop_storeRow hT ho te hx hb hk.1 hgs hds hk.2 hp
     ·cases h
    ·cases h
   ·cases h
  ·cases h
 ·rename_i t x y ho
  split at h
  ·rename_i e te
   split at h
   ·rename_i len el hd
    split at h
    ·rename_i ee tee
     split at h
     ·rename_i k n gs g hs1 hy hx
      cases hk:(Nat.beq ee.size 1&& !aggD ee.desc)with
      |false=>rw[hk]at h;cases h
      |true=>
       rw[hk]at h
       cases h
       simp only[Bool.and_eq_true,Bool.not_eq_true']at hk
       exact lop_index_agg hT ho te hd tee hk.1 hk.2 hy hx hp
     ·cases h
    ·cases h
   ·cases h
  ·cases h
 ·rename_i t x y z ho
  unfold mapR at h
  split at h
  ·rename_i L' hs1
   split at h
   ·rename_i b k v e hx hy hz he
    split at h
    ·rename_i kt et L hd hH
     split at h
     ·rename_i ke hk1
      cases hb:keyFit ke.desc k with
      |false=>rw[hb]at h;cases h
      |true=>
       rw[hb]at h
       cases h
       exact lop_mapUpdate hT (.inr ho) he hd hk1 (opO_eq hx) hy hz hH hb hp
     ·cases h
    ·cases h
   ·cases h
  ·cases h
 ·cases h
def arrG [Laid] (P:Program) (T:Tab) (σ:St) (o:Oper) (hs:List (Hint P)):OpR P:=
 match o.op with
 | .alloc t=>match tyAt T t,hs with
   |some e,.arr df cs zs::hs=>bif allOne e.zero then some (some (zs.length≤1000000∧rowL cs zs=oneL (scD e.zero.cells.toList)), {g:= .ptr σ.next 1 0 0,upd:=[(σ.next,some (.row t 1 df cs zs 0))],new:=[σ.next]},hs)else none
   |_,_=>none
 | .indexAddr t x y=>match tyAt T t with
   |some e=>match e.desc with
    | .array len el=>match tyAt T el,idxOf (opA σ y),opA σ x with
      |some ee,some (_,n),.ptr b _ 0 0=>some (some (0≤n∧n<len), {g:= .ptr b ee.size n.toNat 0},hs)
      |_,_,_=>none
    |_=>none
   |none=>none
 | .slice t x none hi none=>match tyAt T t with
   |some e=>match e.desc with
    | .array len el=>match tyAt T el,optI (hi.map (opA σ)),opA σ x with
      |some _,some h,.ptr b _ 0 0=>match σ.H b with
       |some (.row ty es' df cs xs _)=>bif Nat.beq es' 1 then some (some (0≤hiI len h∧hiI len h≤len∧len=xs.length), {g:= .d (.row df cs (xs.take (hiI len h).toNat)),upd:=[(b,some (.row ty es' df cs xs xs.length))],fp:=[b]},hs)else none
       |_=>none
      |some ee,_,.ep cells=>match hi,hs with
       |none,.el df cs zs::hs=>bif Nat.beq ee.size 1 then some (some (len=cells.length∧rowL cs zs=oneL cells), {g:= .d (.row df cs zs)},hs)else none
       |_,_=>none
      |_,_,_=>none
    |_=>none
   |none=>none
 |_=>none
theorem arrG_sound [Laid] {P:Program} {T:Tab} (hT:TabOK P T) {σ:St} {o:Oper} {hs hs':List (Hint P)} {pr:Option Prop} {E:Eff} (h:arrG P T σ o hs=some (pr,E,hs')) (hp:obP pr):LOp P o (opA σ) σ.H E:=by
 unfold arrG at h
 split at h
 ·rename_i t ho
  split at h
  ·rename_i e α df cs zs hs1 te
   cases h1:allOne e.zero with
   |false=>rw[h1]at h;cases h
   |true=>rw[h1]at h;cases h;exact lop_allocArr hT ho te h1 _ hp
  ·cases h
 ·rename_i t x y ho
  split at h
  ·rename_i e te
   split at h
   ·rename_i len el hd
    split at h
    ·rename_i ee k n b es tee hy hx
     cases h;exact lop_indexArr hT ho te hd tee hy hx hp
    ·cases h
   ·cases h
  ·cases h
 ·rename_i t x hi ho
  split at h
  ·rename_i e te
   split at h
   ·rename_i len el hd
    split at h
    ·rename_i ee hh b es tee hy hx
     split at h
     ·rename_i α ty es' df cs xs fz hb
      cases h1:Nat.beq es' 1 with
      |false=>rw[h1]at h;cases h
      |true=>
       rw[h1]at h;cases h
       have:=Nat.eq_of_beq_eq_true h1
       subst this
       exact lop_sliceArr hT ho te hd tee hy hx hb hp
     ·cases h
    ·rename_i ee cells tee hx
     split at h
     ·rename_i α df cs zs hs1
      cases h1:Nat.beq ee.size 1 with
      |false=>rw[h1]at h;cases h
      |true=>
       rw[h1]at h;cases h
       exact lop_sliceEp hT ho te hd tee hx (Nat.eq_of_beq_eq_true h1) hp
     ·cases h
    ·cases h
   ·cases h
  ·cases h
 ·cases h
def bxG [Laid] (P:Program) (T:Tab) (σ:St) (o:Oper) (hs:List (Hint P)):OpR P:=
 match o.op with
 | .load t x=>match tyAt T t,opA σ x,hs with
   |some e,.ptr b es i f,.bx g::hs=>match σ.H b with
    |some (.box cells)=>bif !aggD e.desc then some (some (cells[i*es+f]? =some g), {g:=g,fp:=[b]},hs)else none
    |_=>none
   |_,_,_=>none
 | .store t x y=>match tyAt T t,opA σ x,cellsG (opA σ y),hs with
   |some e,.ptr b es i f,some [g],.bs::hs=>match σ.H b with
    |some (.box cells)=>bif Nat.beq e.size 1 then some (some (i*es+f<cells.length), {g:= .junk,upd:=[(b,some (.box (cells.set (i*es+f) g)))],fp:=[b]},hs)else none
    |_=>none
   |_,_,_,_=>none
 |_=>none
theorem bxG_sound [Laid] {P:Program} {T:Tab} (hT:TabOK P T) {σ:St} {o:Oper} {hs hs':List (Hint P)} {pr:Option Prop} {E:Eff} (h:bxG P T σ o hs=some (pr,E,hs')) (hp:obP pr):LOp P o (opA σ) σ.H E:=by
 unfold bxG at h
 split at h
 ·rename_i t x ho
  split at h
  ·rename_i e b es i f g hs1 te hx
   split at h
   ·rename_i cells hb
    cases h1: !aggD e.desc with
    |false=>rw[h1]at h;cases h
    |true=>
     rw[h1]at h;cases h
     exact lop_loadBx hT ho te hx hb (by simpa using h1) hp
   ·cases h
  ·cases h
 ·rename_i t x y ho
  split at h
  ·rename_i e b es i f g hs1 te hx hy
   split at h
   ·rename_i cells hb
    cases h1:Nat.beq e.size 1 with
    |false=>rw[h1]at h;cases h
    |true=>
     rw[h1]at h;cases h
     exact lop_storeBx hT ho te hx hb (Nat.eq_of_beq_eq_true h1) hy hp
   ·cases h
  ·cases h
 ·cases h
def isBxH [Laid] {P:Program} :List (Hint P)→Bool
 | .bx _::_=>true
 |_=>false
def isBsH [Laid] {P:Program} :List (Hint P)→Bool
 | .bs::_=>true
 |_=>false
def isArrH [Laid] {P:Program} :List (Hint P)→Bool
 | .arr _ _ _::_=>true
 |_=>false
def isRowP (g:G) (H:Hp):Bool:=
 match g with
 | .ptr b _ _ _=>match H b with
   |some (.row ..)=>true
   |_=>false
 |_=>false
def opG0 [Laid] (P:Program) (wr:Bool) (T:Tab) (σ:St) (o:Oper) (hs:List (Hint P)):OpR P:=
 match o.op with
 | .move x=>match opO σ x with
   |some g=>some (none, {g:=g},hs)
   |none=>none
 | .assign x=>match opO σ x with
   |some g=>some (none, {g:=g},hs)
   |none=>none
 | .alloc t=>match isArrH hs with
   |true=>arrG P T σ o hs
   |false=>match tyAt T t with
    |some e=>bif allOne e.zero then match zeroO e.zero.cells.toList with
     |some z=>some (none, {g:= .ptr σ.next 0 0 0,upd:=[(σ.next,some (.box z))],new:=[σ.next]},hs)
     |none=>none
     else none
    |none=>none
 | .box t x=>match cellsG (opA σ x)with
   |some gs=>some (none, {g:= .ptr σ.next 0 0 0,upd:=[(σ.next,some (.box gs))],new:=[σ.next]},hs)
   |none=>none
 | .build t parts=>match tyAt T t with
   |some e=>bif allOne e.zero then
    match partsO σ parts.toList with
    |some ps=>match buildG T e ps with
     |some g=>some (none, {g:=g},hs)
     |none=>none
    |none=>none
    else none
   |none=>none
 | .buildSlice t n parts=>match tyAt T t with
   |some te=>match te.desc with
    | .slice el=>match tyAt T el with
      |some ee=>bif allOne ee.zero&&Nat.beq ee.zero.cells.size ee.size&&Nat.beq n parts.toList.length&&Nat.ble (n*ee.size) 16777216&&Nat.ble n 16777216 then
       match partsO σ parts.toList with
       |some ps=>match litG ee.size 0 ps with
        |some L=>match hs with
         | .el df cs zs::hs=>some (some (rowL cs zs=L), {g:= .sl σ.next ee.size 0 n,upd:=[(σ.next,some (.row el ee.size df cs zs 0))],new:=[σ.next]},hs)
         |hs=>some (none, {g:= .sl σ.next ee.size 0 n,upd:=[(σ.next,some (.row el ee.size 0 (litC L) (List.range L.length) 0))],new:=[σ.next]},hs)
        |none=>none
       |none=>none
       else none
      |none=>none
    |_=>none
   |none=>none
 | .load t x=>match isBxH hs with
   |true=>bxG P T σ o hs
   |false=>match tyAt T t with
    |some e=>match loadG e (opA σ x) σ.H with
     |some (pr,g,fp)=>some (pr, {g:=g,fp:=fp},hs)
     |none=>none
    |none=>none
 | .store t x y=>match isBsH hs with
   |true=>bxG P T σ o hs
   |false=>match tyAt T t with
    |some e=>match isRowP (opA σ x) σ.H with
     |true=>extG P T σ o hs
     |false=>match storeG e (opA σ x) (opA σ y) σ.H with
      |some (upd,fp)=>some (none, {g:= .junk,upd:=upd,fp:=fp},hs)
      |none=>none
    |none=>none
 | .binOp op t x y _=>match opA σ x,opA σ y with
   | .d (.sc u),.d (.sc v)=>match binG wr op (tyAt T t) u v with
     |some (pr,r)=>bif r.oneCell' then some (pr, {g:= .d (.sc r)},hs)else none
     |none=>none
   | .agg gs,.agg gs'=>match hs with
     | .eq (t:=t') (us:=us) (vs:=vs) (b:=b) h::hs=>match cellV gs,cellV gs',eqlB op b with
       |some us',some vs',some b'=>bif Nat.beq t t' then some (some (us'=us∧vs'=vs), {g:= .d (.sc (.bool b'))},hs)else none
       |_,_,_=>none
     |_=>none
   |_,_=>none
 | .unOp op _ x=>match opA σ x with
   | .d (.sc u)=>match unG wr op u with
     |some (pr,r)=>some (pr, {g:= .d (.sc r)},hs)
     |none=>none
   |_=>none
 | .convert src dst x=>cvtR P wr T σ src dst x hs
 | .fieldAddr t x n=>match tyAt T t with
   |some e=>match fieldOf e n with
    |some f=>match tyAt T f.type with
     |some fe=>match fieldAddrG f fe (opA σ x)with
      |some g=>some (none, {g:=g},hs)
      |none=>none
     |none=>none
    |none=>none
   |none=>none
 | .field t x n=>match tyAt T t with
   |some e=>match fieldOf e n with
    |some f=>match tyAt T f.type with
     |some fe=>match fieldG f fe (opA σ x)with
      |some g=>some (none, {g:=g},hs)
      |none=>none
     |none=>none
    |none=>none
   |none=>none
 | .indexAddr t x y=>match tyAt T t with
   |some e=>match e.desc with
    | .slice el=>match tyAt T el with
      |some ee=>match idxOf (opA σ y)with
       |some (_,n)=>match indexAddrG ee.size (opA σ x) n with
        |some (pr,g)=>some (pr, {g:=g},hs)
        |none=>none
       |none=>none
      |none=>none
    |_=>arrG P T σ o hs
   |none=>none
 | .index t x y=>match tyAt T t with
   |some e=>match idxOf (opA σ y)with
    |some (_,n)=>match indexG e.desc none (opA σ x) n with
     |some (pr,g)=>some (pr, {g:=g},hs)
     |none=>extG P T σ o hs
    |none=>none
   |none=>none
 | .slice t x lo hi none=>match tyAt T t with
   |some e=>match elemSize T e.desc,optI (lo.map (opA σ)),optI (hi.map (opA σ))with
    |some es,some l,some h=>match sliceG e.desc es (opA σ x) l h with
     |some (pr,g)=>some (pr, {g:=g},hs)
     |none=>arrG P T σ o hs
    |_,_,_=>none
   |none=>none
 | .extract x n=>match opA σ x with
   | .tup vs=>match atO n vs with
     |some g=>some (none, {g:=g},hs)
     |none=>none
   |_=>none
 | .call {callee:= .value f,args:=args,argTypes:=_} =>callR P σ f args.toList hs
 | .call {callee:= .builtin .len,args:=args,argTypes:=tys} =>match args.toList,tys.toList with
   | [x],[t]=>match tyAt T t with
     |some e=>match lenG e.desc (opA σ x)with
      |some n=>some (none, {g:= .d (.sc (.int .i64 n))},hs)
      |none=>none
     |none=>none
   |_,_=>none
 | .call {callee:= .builtin .append,args:=args,argTypes:=tys} =>match args.toList,tys.toList with
   | [x,y],[t,tx]=>match hs with
     | .sh b bx::hs=>match shareU σ.H b bx with
       |some (ps,u)=>match appendR P T ⟨σ.tmps,apU u σ.hp,σ.next⟩ x y t tx hs with
        |some (p,E,hs')=>some (some (AllP ps∧obP p), {g:=E.g,upd:=apU E.upd u,fp:=apN (fstL u) E.fp,new:=E.new},hs')
        |none=>none
       |none=>none
     |hs=>appendR P T σ x y t tx hs
   |_,_=>none
 | .call {callee:= .builtin .min,args:=args,argTypes:=_} =>match args.toList with
   | [x,y]=>match opA σ x,opA σ y with
     | .d (.sc (.int k a)),.d (.sc (.int k' b))=>bif kindEq k k' then some (none, {g:= .d (.sc (.int k (if b<a then b else a)))},hs)else none
     |_,_=>none
   |_=>none
 | .call {callee:= .builtin .max,args:=args,argTypes:=_} =>match args.toList with
   | [x,y]=>match opA σ x,opA σ y with
     | .d (.sc (.int k a)),.d (.sc (.int k' b))=>bif kindEq k k' then some (none, {g:= .d (.sc (.int k (if a<b then b else a)))},hs)else none
     |_,_=>none
   |_=>none
 | .makeMap t none=>some (none, {g:= .mp σ.next,upd:=[(σ.next,some (.mp []))],new:=[σ.next]},hs)
 | .lookup t x y c=>lookR P T σ t x y c hs
 | .mapUpdate t x y z=>mapR P T σ t x y z hs
 | .makeFunc f x y=>match opsO σ x.toList,opsO σ y.toList with
   |some gx,some gy=>some (none, {g:= .fn f gx gy},hs)
   |_,_=>none
 |_=>extG P T σ o hs
theorem appendR_sound [Laid] {P:Program} {T:Tab} (hT:TabOK P T) {σ:St} {o:Oper} {x y:Operand} {t tx:TypeId} {hs hs':List (Hint P)} {pr:Option Prop} {E:Eff} (ho:o.op= .call {callee:= .builtin .append,args:= #[x,y],argTypes:= #[t,tx]}) (h:appendR P T σ x y t tx hs=some (pr,E,hs')) (hp:obP pr):LOp P o (opA σ) σ.H E:=by
 unfold appendR at h
 split at h
 ·rename_i α df cs zs hs1
  split at h
  ·rename_i te xe h1 h2
   split at h
   ·rename_i el el' hd1 hd2
    split at h
    ·rename_i ee h3
     cases hb:(Nat.ble 1 ee.size&&Nat.ble 1 ee.bytes&&allOne ee.zero&&Nat.beq ee.zero.cells.size ee.size)with
     |false=>rw[hb]at h;cases h
     |true=>
      rw[hb]at h
      simp only[cond_true]at h
      simp only[Bool.and_eq_true]at hb
      split at h
      ·rename_i pd Ld n ob fz ps Ls m fp hd hsr
       cases h
       obtain ⟨⟨p1,p2⟩,p3,p4,p5,p6⟩:=hp
       exact lop_append hT ho h1 h2 hd1 hd2 h3 (Nat.le_of_ble_eq_true hb.1.1.1) (Nat.le_of_ble_eq_true hb.1.1.2) hb.1.2 (Nat.eq_of_beq_eq_true hb.2) hd hsr p1 p2 p3 p4 p5 p6 _ (fun b hb=>by subst hb;simp[obFp])
      ·cases h
    ·cases h
   ·cases h
  ·cases h
 ·cases h
theorem opG0_sound [Laid] {P:Program} {wr:Bool} {T:Tab} (hT:TabOK P T) {σ:St} {o:Oper} {hs hs':List (Hint P)} {pr:Option Prop} {E:Eff} (h:opG0 P wr T σ o hs=some (pr,E,hs')) (hp:obP pr):LOp P o (opA σ) σ.H E:=by
 unfold opG0 at h
 split at h
 ·rename_i x ho
  split at h
  ·rename_i g hg;cases h;rw[←opO_eq hg];exact lop_move (.inl ho)
  ·cases h
 ·rename_i x ho
  split at h
  ·rename_i g hg;cases h;rw[←opO_eq hg];exact lop_move (.inr ho)
  ·cases h
 ·rename_i t ho
  split at h
  ·exact arrG_sound hT h hp
  ·split at h
   ·rename_i e te
    cases h1:allOne e.zero with
    |false=>rw[h1]at h;cases h
    |true=>
     rw[h1]at h
     simp only[cond_true]at h
     split at h
     ·rename_i z hz;cases h;have:=zeroO_eq _ _ hz;subst this;exact lop_alloc hT ho te h1 _
     ·cases h
   ·cases h
 ·rename_i t x ho
  split at h
  ·rename_i gs hgs;cases h;exact lop_box ho hgs _
  ·cases h
 ·rename_i t parts ho
  split at h
  ·rename_i e te
   cases h1:allOne e.zero with
   |false=>rw[h1]at h;cases h
   |true=>
    rw[h1]at h
    simp only[cond_true]at h
    split at h
    ·rename_i ps hps
     have:=partsO_eq _ _ hps
     subst this
     split at h
     ·rename_i g hg;cases h;exact lop_build hT ho te h1 hg
     ·cases h
    ·cases h
  ·cases h
 ·rename_i t n parts ho
  split at h
  ·rename_i te hte
   split at h
   ·rename_i el hd
    split at h
    ·rename_i ee hee
     cases hb:(allOne ee.zero&&Nat.beq ee.zero.cells.size ee.size&&Nat.beq n parts.toList.length&&Nat.ble (n*ee.size) 16777216&&Nat.ble n 16777216)with
     |false=>rw[hb]at h;cases h
     |true=>
      rw[hb]at h
      simp only[cond_true]at h
      simp only[Bool.and_eq_true]at hb
      split at h
      ·rename_i ps hps
       have:=partsO_eq _ _ hps
       subst this
       split at h
       ·rename_i L hL
        split at h
        ·cases h;exact lop_buildSlice hT ho hte hd hee hb.1.1.1.1 hb.1.1.1.2 hb.1.1.2 hb.1.2 hb.2 hL _ hp
        ·cases h;exact lop_buildSlice hT ho hte hd hee hb.1.1.1.1 hb.1.1.1.2 hb.1.1.2 hb.1.2 hb.2 hL _ (lit_rowL L)
       ·cases h
      ·cases h
    ·cases h
   ·cases h
  ·cases h
 ·rename_i t x ho
  split at h
  ·exact bxG_sound hT h hp
  ·split at h
   ·rename_i e te
    split at h
    ·rename_i pr' g fp hl;cases h;exact lop_load hT ho te hl hp
    ·cases h
   ·cases h
 ·rename_i t x y ho
  split at h
  ·exact bxG_sound hT h hp
  ·split at h
   ·rename_i e te
    split at h
    ·exact extG_sound hT h hp
    ·split at h
     ·rename_i upd fp hl;cases h;exact lop_store hT ho te hl
     ·cases h
   ·cases h
 ·rename_i op t x y ty ho
  split at h
  ·rename_i u v hx hy
   split at h
   ·rename_i pr' r hb
    cases h1:r.oneCell' with
    |false=>rw[h1]at h;cases h
    |true=>rw[h1]at h;cases h;exact lop_bin hT ho hx hy hb hp h1
   ·cases h
  ·rename_i gs gs' hx hy
   split at h
   ·rename_i t' us vs b he hs2
    split at h
    ·rename_i us' vs' b' h1 h2 h3
     cases ht:Nat.beq t t' with
     |false=>rw[ht]at h;cases h
     |true=>
      rw[ht]at h
      cases h
      have:=Nat.eq_of_beq_eq_true ht
      subst this
      obtain ⟨p1,p2⟩:=(hp:us'=us∧vs'=vs)
      subst p1 p2
      exact lop_eq ho hx hy h1 h2 he h3
    ·cases h
   ·cases h
  ·cases h
 ·rename_i op t x ho
  split at h
  ·rename_i u hx
   split at h
   ·rename_i pr' r hb;cases h;exact lop_un ho hx hb hp
   ·cases h
  ·cases h
 ·rename_i src dst x ho
  unfold cvtR at h
  split at h
  ·rename_i e1 e2 u t1 t2 hx
   split at h
   ·rename_i pr' r hb;cases h;exact lop_conv hT ho t1 t2 hx hb hp
   ·split at h
    ·rename_i d1 d2 hb
     split at h
     ·rename_i ee t0
      split at h
      ·rename_i d0;cases h;exact lop_s2b hT ho t1 d1 t2 d2 t0 d0 hx hp
      ·cases h
     ·cases h
    ·cases h
  ·rename_i e1 e2 t1 t2 _
   split at h
   ·rename_i el s hs1 hd1 hd2
    split at h
    ·rename_i ee t0
     split at h
     ·rename_i pr' L m fp hd0 hL
      cases h
      exact lop_bytes hT ho t1 hd1 t0 hd0 t2 hd2 hL hp.1 hp.2
     ·cases h
    ·cases h
   ·cases h
  ·cases h
 ·rename_i t x n ho
  split at h
  ·rename_i e te
   split at h
   ·rename_i f hf
    split at h
    ·rename_i fe hfe
     split at h
     ·rename_i g hg;cases h;exact lop_fieldAddr hT ho te hf hfe hg
     ·cases h
    ·cases h
   ·cases h
  ·cases h
 ·rename_i t x n ho
  split at h
  ·rename_i e te
   split at h
   ·rename_i f hf
    split at h
    ·rename_i fe hfe
     split at h
     ·rename_i g hg;cases h;exact lop_field hT ho te hf hfe hg
     ·cases h
    ·cases h
   ·cases h
  ·cases h
 ·rename_i t x y ho
  split at h
  ·rename_i e te
   split at h
   ·rename_i el hd
    split at h
    ·rename_i ee hee
     split at h
     ·rename_i k n hi
      split at h
      ·rename_i pr' g hg;cases h;exact lop_indexAddr hT ho te hd hee hi hg hp
      ·cases h
     ·cases h
    ·cases h
   ·exact arrG_sound hT h hp
  ·cases h
 ·rename_i t x y ho
  split at h
  ·rename_i e te
   split at h
   ·rename_i k n hi
    split at h
    ·rename_i pr' g hg;cases h;exact lop_index hT ho te hi hg hp
    ·exact extG_sound hT h hp
   ·cases h
  ·cases h
 ·rename_i t x lo hi ho
  split at h
  ·rename_i e te
   split at h
   ·rename_i es l hh hes hl1 hh1
    split at h
    ·rename_i pr' g hg
     cases h
     refine lop_slice hT ho te (fun el hd=> ?_) hl1 hh1 hg hp
     rw[hd]at hes
     simp only[elemSize]at hes
     split at hes
     ·rename_i ee hee;cases hes;exact ⟨ee,hee,rfl⟩
     ·cases hes
    ·exact arrG_sound hT h hp
   ·cases h
  ·cases h
 ·rename_i x n ho
  split at h
  ·rename_i vs hx
   split at h
   ·rename_i g hg;cases h;exact lop_extract ho hx (atO_eq _ _ _ hg)
   ·cases h
  ·cases h
 ·rename_i f args tys ho
  unfold callR at h
  split at h
  ·rename_i k' gs' g h2 hs1
   split at h
   ·rename_i gf ga hf hga
    split at h
    ·rename_i k gs hc
     split at h
     ·rename_i p gd u hu
      cases hk:Nat.beq k k' with
      |false=>rw[hk]at h;cases h
      |true=>
       rw[hk]at h
       cases h
       have:=Nat.eq_of_beq_eq_true hk
       subst this
       rw[←opO_eq hf,←opsO_eq _ _ hga]at hc
       obtain ⟨p1,p2⟩:=andO_spec hp
       rw[fstL_eq]
       exact lop_call ho hc hu p1 p2 h2
     ·cases h
    ·cases h
   ·cases h
  ·rename_i Q k' gs' g h2 hs1
   split at h
   ·rename_i gf ga hf hga
    split at h
    ·rename_i k gs hc
     split at h
     ·rename_i p gd u hu
      cases hk:Nat.beq k k' with
      |false=>rw[hk]at h;cases h
      |true=>
       rw[hk]at h
       cases h
       have:=Nat.eq_of_beq_eq_true hk
       subst this
       rw[←opO_eq hf,←opsO_eq _ _ hga]at hc
       obtain ⟨p1,pq,p2⟩:=andO_spec hp
       rw[fstL_eq]
       exact lop_call ho hc hu p1 p2 (h2 pq)
     ·cases h
    ·cases h
   ·cases h
  ·rename_i k' gs' bs g bs' ren h2 hs1
   split at h
   ·rename_i gf ga hf hga
    split at h
    ·rename_i k gs hc
     split at h
     ·rename_i p gd u hu
      cases hk:(Nat.beq k k'&&okM ren σ.next gs' bs&&Nat.ble bs.length bs'.length)with
      |false=>rw[hk]at h;cases h
      |true=>
       rw[hk]at h
       simp only[cond_true]at h
       simp only[Bool.and_eq_true]at hk
       split at h
       ·rename_i b0 hb0
        cases h
        have:=Nat.eq_of_beq_eq_true hk.1.1
        subst this
        rw[←opO_eq hf,←opsO_eq _ _ hga]at hc
        obtain ⟨p1,p2,p3⟩:=andO_spec hp
        rw[fstL_eq,apN_eq,apU_eq]
        exact lop_callM ho hc hu p1 h2 hk.1.2 (Nat.le_of_ble_eq_true hk.2) p2 hb0 p3
       ·cases h
     ·cases h
    ·cases h
   ·cases h
  ·cases h
 ·rename_i args tys ho
  split at h
  ·rename_i x t hx ht
   split at h
   ·rename_i e te
    split at h
    ·rename_i n hn
     cases h
     have ea:args= #[x]:=by cases args;simp at hx;simp[hx]
     have et:tys= #[t]:=by cases tys;simp at ht;simp[ht]
     subst ea;subst et
     exact lop_len hT ho te hn
    ·cases h
   ·cases h
  ·cases h
 ·rename_i args tys ho
  split at h
  ·rename_i x y t tx hx ht
   have ea:args= #[x,y]:=by cases args;simp at hx;simp[hx]
   have et:tys= #[t,tx]:=by cases tys;simp at ht;simp[ht]
   subst ea;subst et
   split at h
   ·rename_i b bx hs1
    split at h
    ·rename_i ps u hu
     split at h
     ·rename_i p E1 hs2 ha
      cases h
      obtain ⟨q1,q2⟩:=(hp:AllP ps∧obP p)
      have hH:(St.H ⟨σ.tmps,apU u σ.hp,σ.next⟩)=look u σ.H:=by
       show look (apU u σ.hp) noHp=_
       rw[apU_eq,look_append];rfl
      have h1:LOp P _ (opA σ) (look u σ.H) E1:=hH▸appendR_sound (σ:=⟨σ.tmps,apU u σ.hp,σ.next⟩) hT ho ha q2
      have h2:=lop_pre (shareU_pre hu q1) h1
      rw[apN_eq,fstL_eq]
      exact h2
     ·cases h
    ·cases h
   ·exact appendR_sound hT ho h hp
  ·cases h
 ·rename_i args tys ho
  split at h
  ·rename_i x y hx
   have ea:args= #[x,y]:=by cases args;simp at hx;simp[hx]
   subst ea
   split at h
   ·rename_i k a k' b h1 h2
    cases hk:kindEq k k' with
    |false=>rw[hk]at h;cases h
    |true=>rw[hk]at h;cases h;exact lop_min ho h1 h2 hk
   ·cases h
  ·cases h
 ·rename_i args tys ho
  split at h
  ·rename_i x y hx
   have ea:args= #[x,y]:=by cases args;simp at hx;simp[hx]
   subst ea
   split at h
   ·rename_i k a k' b h1 h2
    cases hk:kindEq k k' with
    |false=>rw[hk]at h;cases h
    |true=>rw[hk]at h;cases h;exact lop_max ho h1 h2 hk
   ·cases h
  ·cases h
 ·rename_i t ho;cases h;exact lop_makeMap ho _
 ·rename_i t x y c ho
  unfold lookR at h
  split at h
  ·rename_i v ok hs1
   split at h
   ·rename_i b k e hx hy he
    split at h
    ·rename_i kt et L hd hH
     split at h
     ·rename_i ke ee hk1 he1
      cases hb:(keyFit ke.desc k&&v.oneCell')with
      |false=>rw[hb]at h;cases h
      |true=>
       rw[hb]at h
       simp only[Bool.and_eq_true]at hb
       cases h
       exact lop_lookup hT ho he hd hk1 he1 (opO_eq hx) hy hH hb.1 hb.2 hp
     ·cases h
    ·cases h
   ·cases h
  ·cases h
 ·rename_i t x y z ho
  unfold mapR at h
  split at h
  ·rename_i L' hs1
   split at h
   ·rename_i b k v e hx hy hz he
    split at h
    ·rename_i kt et L hd hH
     split at h
     ·rename_i ke hk1
      cases hb:keyFit ke.desc k with
      |false=>rw[hb]at h;cases h
      |true=>
       rw[hb]at h
       cases h
       exact lop_mapUpdate hT (.inl ho) he hd hk1 (opO_eq hx) hy hz hH hb hp
     ·cases h
    ·cases h
   ·cases h
  ·cases h
 ·rename_i f x y ho
  split at h
  ·rename_i gx gy hx hy
   cases h
   rw[←opsO_eq _ _ hx,←opsO_eq _ _ hy]
   exact lop_makeFunc ho
  ·cases h
 ·exact extG_sound hT h hp
def fzOp:Op→Bool
 | .buildSlice .. =>true
 | .call {callee:= .builtin .append,args:=_,argTypes:=_} =>true
 |_=>false
def mapG [Laid] (σ:St):List Operand→List G
 | []=>[]
 |x::l=>opA σ x::mapG σ l
theorem mapG_eq [Laid] (σ:St) (l:List Operand):mapG σ l=l.map (opA σ):=by
 induction l with
 |nil=>rfl
 |cons x l ih=>simp[mapG,ih]
def opG [Laid] (P:Program) (wr:Bool) (T:Tab) (σ:St) (o:Oper) (hs:List (Hint P)):OpR P:=
 match hs with
 | .fz::hs'=>match fzOp o.op with
   |true=>match args2 σ.H (mapG σ o.op.operands.toList)with
    |some (p,_,u)=>match opG0 P wr T ⟨frzT σ.H σ.tmps,apU u σ.hp,σ.next⟩ o hs' with
     |some (pr,E,hs'')=>some (some (obP p∧obP pr), {g:=E.g,upd:=apU E.upd u,fp:=apN (fstL u) E.fp,new:=E.new},hs'')
     |none=>none
    |none=>none
   |false=>opG0 P wr T σ o (.fz::hs')
 |hs=>opG0 P wr T σ o hs
theorem opA_frz [Laid] {σ:St} {u:List (Nat×Option Blk)} {x:Operand} {p1:Option Prop} {g':G} {u1:List (Nat×Option Blk)} (h:arg2 σ.H (opA σ x)=some (p1,g',u1)):opA ⟨frzT σ.H σ.tmps,apU u σ.hp,σ.next⟩ x=g':=by
 cases x with
 |tmp t=>
  show strip (deEx (getG (frzT σ.H σ.tmps) t))=g'
  rw[frzT_get]
  have h:arg2 σ.H (strip (deEx (getG σ.tmps t)))=some (p1,g',u1):=h
  cases hg:getG σ.tmps t<;>rw[hg]at h<;>simp only[strip,deEx]at h
  case opt c g=>
   simp only[frzG,h,strip,deEx]
  case ex v g=>
   have h:arg2 σ.H (strip g)=some (p1,g',u1):=h
   show strip (deEx (G.opt true (match arg2 σ.H (strip g)with
    |some (_,g',_)=>g'
    |none=>g)))=g'
   rw[h];rfl
  case sl b es i n=>
   simp only[frzG,h]
   unfold arg2 arg1 at h
   dsimp only at h
   split at h
   ·rename_i _ ty es' df cs xs fz _
    cases hb:Nat.beq es es' with
    |true=>rw[hb]at h;cases h;rfl
    |false=>rw[hb]at h;cases h
   ·cases h;rfl
   ·cases h
  case agg cells=>
   simp only[frzG,h]
   unfold arg2 at h
   dsimp only at h
   split at h
   ·cases h;rfl
   ·cases h
  all_goals
   simp only[frzG,h]
   unfold arg2 arg1 at h
   dsimp only at h
   cases h
   rfl
 |const v=>
  have e:arg2 σ.H (opA σ (.const v))=some (none,opA σ (.const v),[]):=by
   cases v<;>rfl
  rw[e]at h;cases h;rfl
 |func f=>
  have e:arg2 σ.H (opA σ (.func f))=some (none,opA σ (.func f),[]):=rfl
  rw[e]at h;cases h;rfl
 |global g=>
  have e:arg2 σ.H (opA σ (.global g))=some (none,opA σ (.global g),[]):=by
   show arg2 σ.H (strip (globG Laid.gl g))=_
   rcases globG_mem Laid.gl g with ⟨x,_,e⟩|e
   ·have e1:opA σ (.global g)= .ep x:=by show strip (globG Laid.gl g)=_;rw[e];rfl
    rw[e1,e];rfl
   ·have e1:opA σ (.global g)= .d (.sc (.pointer (some ⟨g,0,none⟩))):=by show strip (globG Laid.gl g)=_;rw[e];rfl
    rw[e1,e];rfl
  rw[e]at h;cases h;rfl
theorem opG_sound [Laid] {P:Program} {wr:Bool} {T:Tab} (hT:TabOK P T) {σ:St} {o:Oper} {hs hs':List (Hint P)} {pr:Option Prop} {E:Eff} (h:opG P wr T σ o hs=some (pr,E,hs')) (hp:obP pr):LOp P o (opA σ) σ.H E:=by
 unfold opG at h
 split at h
 ·split at h
  ·split at h
   ·rename_i p gs u hu
    split at h
    ·rename_i pr1 E1 hs2 h1
     cases h
     obtain ⟨q1,q2⟩:=(hp:obP p∧obP pr1)
     have hH:(St.H ⟨frzT σ.H σ.tmps,apU u σ.hp,σ.next⟩)=look u σ.H:=by
      show look (apU u σ.hp) noHp=_
      rw[apU_eq,look_append];rfl
     have h2:=opG0_sound hT h1 q2
     rw[hH]at h2
     rw[mapG_eq]at hu
     rw[apN_eq,fstL_eq]
     exact lop_freeze hu q1 (fun x _ p1 g' u1 e=>opA_frz e) h2
    ·cases h
   ·cases h
  ·exact opG0_sound hT h hp
 ·exact opG0_sound hT h hp
def impP (c:Bool):Option Prop→Option Prop
 |none=>none
 |some p=>some (c=true→p)
theorem impP_spec {c:Bool} {p:Option Prop} (h:obP (impP c p)) (hc:c=true):obP p:=by
 cases p with
 |none=>trivial
 |some p=>exact h hc
def effOk (next:Nat) (upd:List (Nat×Option Blk)) (fp new:List Nat):Bool:=
 (fp.all fun i=>Nat.ble (i+1) next)&&(new.all fun i=>Nat.ble next i&&Nat.ble (i+1) (next+new.length))&&
 (upd.all fun p=>(fp.any fun j=>Nat.beq p.1 j)||(new.any fun j=>Nat.beq p.1 j))&&(new.all fun i=>upd.any fun p=>Nat.beq i p.1)
def dstOk (nt:Nat):Option Nat→Bool
 |none=>true
 |some d=>Nat.ble (d+1) nt
def isPick:Op→Option (Operand×Operand×Operand)
 | .pick c x y=>some (c,x,y)
 |_=>none
structure Res1 [Laid] (P:Program):Type 1 where
 pr:List Prop
 c:Bool
 g:G
 upd:List (Nat×Option Blk)
 fp:List Nat
 new:List Nat
 val:G
 hs:List (Hint P)
def noH [Laid] {P:Program} (op:Op) (hs:List (Hint P)):Option (List (Hint P)):=
 match hs with
 | .no::hs=>match op with
   | .call {callee:= .builtin .append,args:=_,argTypes:=_} =>some hs
   | .call {callee:= .builtin _,args:=_,argTypes:=_} =>none
   | .call _=>some hs
   |_=>none
 | .nu::hs=>match op with
   | .unOp .. =>some hs
   | .binOp .. =>some hs
   |_=>none
 | .nb::hs=>match op with
   | .buildSlice .. =>some hs
   | .makeSlice .. =>some hs
   |_=>none
 |_=>none
def noG [Laid] {P:Program} (o:Oper) (hs:List (Hint P)):Option (List (Hint P)):=
 match o.guard with
 |none=>none
 |some _=>noH o.op hs
def stepG [Laid] (P:Program) (wr:Bool) (T:Tab) (nt:Nat) (ops:Array Oper) (σ:St) (o:Oper) (hs:List (Hint P)):Option (Res1 P):=
 match wantOf ops σ o with
 |none=>none
 |some c=>
  match noG o hs with
  |some hs'=>bif dstOk nt o.dst then some ⟨[c=false],c,.d (.sc (.bool false)),[],[],[],.opt c (.d (.sc (.bool false))),hs'⟩else none
  |none=>
  match isPick o.op with
  |some (x,y,z)=>match pickG c (σ.ev x) (σ.ev y) (σ.ev z)with
   |some (pr,g)=>bif dstOk nt o.dst then
    match o.guard with
    |none=>some ⟨addP pr [],c,g,[],[],[],g,hs⟩
    |some _=>some ⟨addP pr [],c,g,[],[],[],.opt c g,hs⟩
    else none
   |none=>none
  |none=>
   match opG P wr T σ o hs,strO c σ o.op.operands.toList with
   |some (pr,⟨g,upd,fp,new⟩,hs'),some sp=>
    bif effOk σ.next upd fp new&&dstOk nt o.dst then
     match o.guard,upd,new with
     |none,upd,new=>some ⟨addP pr sp,c,g,upd,fp,new,g,hs'⟩
     |some _,[],[]=>some ⟨addP (impP c pr) sp,c,g,[],fp,[],.opt c g,hs'⟩
     |some _,upd,new=>match c with
      |true=>some ⟨addP pr sp,true,g,upd,fp,new,g,hs'⟩
      |false=>none
    else none
   |_,_=>none
def Res1.step [Laid] {P:Program} (r:Res1 P) (σ:St) (o:Oper):Step:= {c:=r.c,ρ:=match isPick o.op with|some _=>σ.ev|none=>opA σ,E:= {g:=r.g,upd:=r.upd,fp:=r.fp,new:=r.new},val:=r.val}
theorem want_none {ops:Array Oper} {σ:St} {o:Oper} {c:Bool} (h:wantOf ops σ o=some c) (hg:o.guard=none):c=true:=by
 unfold wantOf at h;rw[hg]at h;injection h with h;exact h.symm
theorem any_beq {l:List Nat} {i:Nat} (h:(l.any fun j=>Nat.beq i j)=true):i∈l:=by
 obtain ⟨j,h1,h2⟩:=List.any_eq_true.1 h
 rw[Nat.eq_of_beq_eq_true h2];exact h1
theorem stepG_sound [Laid] {P:Program} {wr:Bool} {T:Tab} (hT:TabOK P T) {nt:Nat} {ops:Array Oper} {σ:St} {o:Oper} {hs:List (Hint P)} {r:Res1 P} (h:stepG P wr T nt ops σ o hs=some r) (hp:AllP r.pr):SOK P ops nt σ o (r.step σ o):=by
 unfold stepG at h
 split at h
 ·cases h
 ·rename_i c hw
  split at h
  ·rename_i hs' hno
   cases hd:dstOk nt o.dst with
   |false=>rw[hd]at h;cases h
   |true=>
    rw[hd]at h
    cases h
    have hc:c=false:=hp
    subst hc
    refine ⟨hw,fun x hx ν F w v hc hv=>(by cases hc),fun hc=>(by cases hc),.inr (.inl rfl),.inr ⟨rfl,rfl⟩,fun i hi=>(by cases hi),fun i hi=>(by cases hi),fun i hi=>(by cases hi),fun i hi=>(by cases hi),fun d hd'=> ?_⟩
    rw[hd']at hd;exact Nat.le_of_ble_eq_true hd
  split at h
  ·rename_i x y z hpick
   have ho:o.op= .pick x y z:=by
    unfold isPick at hpick;split at hpick
    ·rename_i a b d e;cases hpick;exact e
    ·cases hpick
   split at h
   ·rename_i pr' g hg
    cases hd:dstOk nt o.dst with
    |false=>rw[hd]at h;cases h
    |true=>
     rw[hd]at h
     simp only[cond_true]at h
     have mk:∀(val:G),(c=true∧val=g)∨val= .opt c g→obP pr'→SOK P ops nt σ o {c:=c,ρ:=match isPick o.op with|some _=>σ.ev|none=>opA σ,E:= {g:=g},val:=val} :=fun val hval hp=>by
      rw[hpick]
      refine ⟨hw,fun x hx ν F w v _ hv=>hv,fun hc=>lop_pick ho hg hp hc,hval.imp id .inl,.inr ⟨rfl,rfl⟩,fun i hi=>(by cases hi),fun i hi=>(by cases hi),fun i hi=>(by cases hi),fun i hi=>(by cases hi),fun d hd'=> ?_⟩
      rw[hd']at hd;exact Nat.le_of_ble_eq_true hd
     split at h
     ·rename_i hgd;cases h;exact mk g (.inl ⟨want_none hw hgd,rfl⟩) (addP_spec hp).1
     ·cases h;exact mk (.opt c g) (.inr rfl) (addP_spec hp).1
   ·cases h
  ·rename_i hnp
   split at h
   ·rename_i pr' g upd fp new hs1 sp hop hstr
    cases hb:(effOk σ.next upd fp new&&dstOk nt o.dst)with
    |false=>rw[hb]at h;cases h
    |true=>
     rw[hb]at h
     simp only[cond_true]at h
     simp only[Bool.and_eq_true,effOk]at hb
     obtain ⟨⟨⟨⟨b1,b2⟩,b3⟩,b4⟩,b5⟩:=hb
     simp only[List.all_eq_true]at b1 b2 b3 b4
     have mk:∀(val:G),AllP sp→(c=true→obP pr')→((c=true∧val=g)∨val= .opt c g)→(c=true∨(upd= []∧new= []))→
      SOK P ops nt σ o {c:=c,ρ:=match isPick o.op with|some _=>σ.ev|none=>opA σ,E:= {g:=g,upd:=upd,fp:=fp,new:=new},val:=val} :=fun val h1 h2 h3 h4=>by
      rw[hnp]
      exact ⟨hw,fun x hx ν F w v hc hv=>strip_sound hv hc (strO_at _ _ hstr h1 x hx),fun hc=>opG_sound hT hop (h2 hc),h3.imp id .inl,h4,
       fun i hi=>by
        obtain ⟨p,hp1,hp2⟩:=List.mem_map.1 hi
        have:=b3 p hp1
        simp only[Bool.or_eq_true]at this
        rw[hp2]at this
        exact this.imp any_beq any_beq,
       fun i hi=>by
        have:=b2 i hi
        simp only[Bool.and_eq_true]at this
        exact ⟨Nat.le_of_ble_eq_true this.1,Nat.le_of_ble_eq_true this.2⟩,
       fun i hi=>Nat.le_of_ble_eq_true (b1 i hi),fun i hi=>by
        obtain ⟨p,hp1,hp2⟩:=List.any_eq_true.1 (b4 i hi)
        exact List.mem_map.2 ⟨p,hp1,(Nat.eq_of_beq_eq_true hp2).symm⟩,
       fun d hd=>by rw[hd]at b5;exact Nat.le_of_ble_eq_true b5⟩
     split at h
     ·rename_i hgd
      cases h
      have hc:=want_none hw hgd
      exact mk g (addP_spec hp).2 (fun _=>(addP_spec hp).1) (.inl ⟨hc,rfl⟩) (.inl hc)
     ·rename_i p hgd
      cases h
      exact mk (.opt c g) (addP_spec hp).2 (fun hc=>impP_spec (addP_spec hp).1 hc) (.inr rfl) (.inr ⟨rfl,rfl⟩)
     ·rename_i p upd0 new0 _ hgd
      cases c with
      |true=>
       cases h
       exact mk g (addP_spec hp).2 (fun _=>(addP_spec hp).1) (.inl ⟨rfl,rfl⟩) (.inl rfl)
      |false=>cases h
   ·cases h
def appH:List (Nat×Option Blk)→List (Nat×Option Blk)→List (Nat×Option Blk)
 | [],h=>h
 | [a],h=>a::h
 | [a,b],h=>a::b::h
 |l,h=>l++h
theorem appH_eq (l h:List (Nat×Option Blk)):appH l h=l++h:=by unfold appH;split<;>rfl
def advN:List Nat→Nat→Nat
 | [],n=>n
 | [_],n=>n+1
 |l,n=>n+l.length
theorem advN_eq (l:List Nat) (n:Nat):advN l n=n+l.length:=by unfold advN;split<;>rfl
def runG [Laid] (P:Program) (wr:Bool) (T:Tab) (nt:Nat) (ops:Array Oper):List Oper→List (Nat×G)→List (Nat×Option Blk)→Nat→List Foot→List (Hint P)→Option (List Prop×St×List Foot×List (Hint P))
 | [],tm,hp,n,feet,hs=>some ([],⟨tm,hp,n⟩,feet,hs)
 |o::rest,tm,hp,n,feet,hs=>
  match stepG P wr T nt ops ⟨tm,hp,n⟩ o hs with
  |none=>none
  |some ⟨pr,c,g,upd,fp,new,val,hs'⟩=>
   match o.dst with
   |some d=>match runG P wr T nt ops rest ((d,val)::tm) (appH upd hp) (advN new n) (feet++ [⟨fp,upd.map (·.1)⟩]) hs' with
    |none=>none
    |some (pr',r)=>some (catP pr pr',r)
   |none=>match runG P wr T nt ops rest tm (appH upd hp) (advN new n) (feet++ [⟨fp,upd.map (·.1)⟩]) hs' with
    |none=>none
    |some (pr',r)=>some (catP pr pr',r)
theorem runG_sound [Laid] {P:Program} {wr:Bool} {T:Tab} (hT:TabOK P T) {nt:Nat} {ops:Array Oper} {Q:St→List Foot→Prop} {σ':St} {feet':List Foot} {hs':List (Hint P)} :∀(rest:List Oper) (tm:List (Nat×G)) (h0:List (Nat×Option Blk)) (n:Nat) (feet:List Foot) (hs:List (Hint P)) (pr:List Prop),
 runG P wr T nt ops rest tm h0 n feet hs=some (pr,σ',feet',hs')→AllP pr→Q σ' feet'→GRun P ops nt Q rest ⟨tm,h0,n⟩ feet:=by
 intro rest
 induction rest with
 |nil=>intro tm h0 n feet hs pr h _ hq;simp only[runG,Option.some.injEq,Prod.mk.injEq]at h;obtain ⟨_,rfl,rfl,_⟩:=h;exact .nil _ _ hq
 |cons o rest ih=>
  intro tm h0 n feet hs pr h hp hq
  simp only[runG]at h
  split at h
  ·cases h
  ·rename_i pr1 c g upd fp new val hs1 hst
   have hok:=stepG_sound hT hst
   split at h
   ·rename_i d hd
    split at h
    ·cases h
    ·rename_i pr2 r hr
     cases h
     obtain ⟨q1,q2⟩:=catP_spec hp
     refine .cons _ _ _ _ _ (hok q1) ?_
     have e:(St.app ⟨tm,h0,n⟩ o (Res1.step ⟨pr1,c,g,upd,fp,new,val,hs1⟩ ⟨tm,h0,n⟩ o))=⟨(d,val)::tm,appH upd h0,advN new n⟩:=by
      simp only[St.app,Res1.step,hd,appH_eq,advN_eq]
     rw[e]
     exact ih _ _ _ _ _ _ hr q2 hq
   ·rename_i hd
    split at h
    ·cases h
    ·rename_i pr2 r hr
     cases h
     obtain ⟨q1,q2⟩:=catP_spec hp
     refine .cons _ _ _ _ _ (hok q1) ?_
     have e:(St.app ⟨tm,h0,n⟩ o (Res1.step ⟨pr1,c,g,upd,fp,new,val,hs1⟩ ⟨tm,h0,n⟩ o))=⟨tm,appH upd h0,advN new n⟩:=by
      simp only[St.app,Res1.step,hd,appH_eq,advN_eq]
     rw[e]
     exact ih _ _ _ _ _ _ hr q2 hq
def regOk (ops:Array Oper) (nt:Nat) (draw:Bool) (feet:List Foot):Bool:=
 guardsOk ops nt&&(!draw||(edgesOk ops&&orderOk ops feet))
def keepT (tm:List (Nat×G)):List Nat→Option (List (Nat×G))
 | []=>some []
 |k::l=>match (getG tm k).nf,keepT tm l with
  |some g,some r=>some ((k,g)::r)
  |_,_=>none
theorem keepT_get {tm:List (Nat×G)} {ν:Nu} {F:Fz} {w:World} {t:Nat} {v:Value} (hv:VR ν F w (getG tm t) v):∀(l:List Nat) (r:List (Nat×G)),keepT tm l=some r→VR ν F w (getG r t) v:=by
 intro l
 induction l with
 |nil=>intro r h;simp only[keepT,Option.some.injEq]at h;subst h;exact .junk _
 |cons k l ih=>
  intro r h
  simp only[keepT]at h
  split at h
  ·rename_i g r' h1 h2
   cases h
   simp only[getG]
   cases e:Nat.beq t k with
   |true=>rw[Nat.eq_of_beq_eq_true e]at hv;rw[G.nf_eq h1];exact hv
   |false=>exact ih r' h2
  ·cases h
theorem gw_region1 [Laid] {P:Program} {T:Tab} (env:Env P T) (wr:Bool) (hs:List (Hint P)) {nt p id:Nat} {ops:Array Oper} {draw:Bool} {tm:List (Nat×G)} {h0:List (Nat×Option Blk)} {n:Nat} {σ':St} {Q:Exit→St→Prop} {feet:List Foot} {pr:List Prop} {hs':List (Hint P)}
 (h:runG P wr T nt ops ops.toList tm h0 n [] hs=some (pr,σ',feet,hs')) (hok:regOk ops nt draw feet=true) (hp:AllP pr) (hq:Q .normal σ'):GW P nt p (.region id ops draw) ⟨tm,h0,n⟩ Q:=by
 simp only[regOk,Bool.and_eq_true,Bool.or_eq_true,Bool.not_eq_true']at hok
 cases draw with
 |false=>exact gw_region_text hok.1 (runG_sound env.ty _ _ _ _ _ _ _ h hp hq)
 |true=>
  obtain ⟨r1,r2⟩:=hok
  rcases r2 with r2|⟨r2,r3⟩
  ·cases r2
  ·exact gw_region_any env.mix r1 r2 (runG_sound env.ty _ _ _ _ _ _ _ h hp ⟨r3,hq⟩)
def viewO (H:Hp):G→Option (List Prop×G)
 | .sl b es i n=>match H b with
   |some (.row ty es' df cs xs fz)=>bif Nat.beq i 0&&Nat.beq es es' then some ([n=xs.length],.d (.row df cs xs))else none
   |_=>none
 |g=>match g.nf with
  |some g=>some ([],g)
  |none=>none
def viewLO (H:Hp):List G→Option (List Prop×List G)
 | []=>some ([],[])
 |g::l=>match viewO H g,viewLO H l with
  |some (p,g'),some (q,l')=>some (catP p q,g'::l')
  |_,_=>none
def viewGO (H:Hp):G→Option (List Prop×G)
 | .agg cells=>match viewLO H cells with
   |some (p,l)=>some (p,.agg l)
   |none=>none
 |g=>viewO H g
theorem viewO_one {H:Hp} {g g':G} {p:List Prop} (h:viewO H g=some (p,g')) (hp:AllP p):(viewOne H g).1∧(viewOne H g).2=g':=by
 unfold viewO at h
 split at h
 ·rename_i b es i n
  split at h
  ·rename_i α ty es' df cs xs fz hH
   cases hb:(Nat.beq i 0&&Nat.beq es es')with
   |false=>rw[hb]at h;cases h
   |true=>
    rw[hb]at h;cases h
    simp only[Bool.and_eq_true]at hb
    simp only[viewOne,hH]
    exact ⟨⟨Nat.eq_of_beq_eq_true hb.1,hp,Nat.eq_of_beq_eq_true hb.2⟩,trivial⟩
  ·cases h
 ·rename_i hno
  split at h
  ·rename_i g1 hg
   cases h
   have:=G.nf_eq hg;subst this
   cases g'<;>first|exact ⟨trivial,rfl⟩|skip
   rename_i b es i n;exact absurd rfl (hno b es i n)
  ·cases h
theorem viewLO_one {H:Hp} :∀ {l l':List G} {p:List Prop},viewLO H l=some (p,l')→AllP p→viewL H l∧(l.map fun g=>(viewOne H g).2)=l':=by
 intro l
 induction l with
 |nil=>intro l' p h _;simp only[viewLO,Option.some.injEq,Prod.mk.injEq]at h;obtain ⟨_,rfl⟩:=h;exact ⟨trivial,rfl⟩
 |cons g l ih=>
  intro l' p h hp
  simp only[viewLO]at h
  split at h
  ·rename_i p1 g1 p2 l1 h1 h2
   cases h
   obtain ⟨q1,q2⟩:=catP_spec hp
   obtain ⟨r1,r2⟩:=viewO_one h1 q1
   obtain ⟨s1,s2⟩:=ih h2 q2
   exact ⟨⟨r1,s1⟩,by rw[List.map_cons,r2,s2]⟩
  ·cases h
theorem viewGO_one {H:Hp} {g g':G} {p:List Prop} (h:viewGO H g=some (p,g')) (hp:AllP p):(viewG H g).1∧(viewG H g).2=g':=by
 unfold viewGO at h
 split at h
 ·rename_i cells
  split at h
  ·rename_i p1 l1 h1
   cases h
   obtain ⟨r1,r2⟩:=viewLO_one h1 hp
   exact ⟨r1,by simp only[viewG,r2]⟩
  ·cases h
 ·rename_i hno
  have:viewG H g=viewOne H g:=by
   unfold viewG
   split
   ·rename_i cells;exact absurd rfl (hno cells)
   ·rfl
  rw[this];exact viewO_one h hp
def retO (T:Tab) (σ:St):List ResultVar→Option (List Prop×List G)
 | []=>some ([],[])
 |r::l=>match resOne T σ r with
  |some g=>match viewGO σ.H g,retO T σ l with
   |some (p,g'),some (q,l')=>some (catP p q,g'::l')
   |_,_=>none
  |none=>none
theorem retO_sound {T:Tab} {σ:St} :∀ {rs:List ResultVar} {p:List Prop} {gs:List G},retO T σ rs=some (p,gs)→AllP p→∃gs0,resL T σ rs=some gs0∧views σ.H gs0∧(gs0.map fun g=>(viewG σ.H g).2)=gs:=by
 intro rs
 induction rs with
 |nil=>intro p gs h _;simp only[retO,Option.some.injEq,Prod.mk.injEq]at h;obtain ⟨_,rfl⟩:=h;exact ⟨[],rfl,trivial,rfl⟩
 |cons r rs ih=>
  intro p gs h hp
  simp only[retO]at h
  split at h
  ·rename_i g hg
   split at h
   ·rename_i p1 g1 p2 l1 h1 h2
    cases h
    obtain ⟨q1,q2⟩:=catP_spec hp
    obtain ⟨r1,r2⟩:=viewGO_one h1 q1
    obtain ⟨gs0,s1,s2,s3⟩:=ih h2 q2
    exact ⟨g::gs0,by simp only[resL,hg,s1],⟨r1,s2⟩,by rw[List.map_cons,r2,s3]⟩
   ·cases h
  ·cases h
theorem Ent.of_eq {g g':G} (h:g=g'):Ent g g':=h▸Ent.refl g
theorem done [Laid] {P:Program} {T:Tab} (env:Env P T) {fn:Func} {σ:St} {p:List Prop} {gs:List G} {g:G} (h:retO T σ fn.results.toList=some (p,gs)) (hp:AllP p) (he:Ent (tupG gs) g):RetOK P fn σ g:=by
 obtain ⟨gs0,h1,h2,h3⟩:=retO_sound h hp
 exact ret_ok env.ty h1 h2 (by rw[h3];exact he)
end Go.Gh
namespace Go.Gh
open Go Go.RowKit
set_option linter.unusedVariables false
theorem gw_rounds [Laid] {P:Program} {nt p:Nat} {σ:St} {Q:Exit→St→Prop} {c:Code} {α:Type 1} (inv:α→St) (m:α→Nat) (a0:α) (hw:∀ν F a w,RS σ ν F a w nt p→∃ν',RS (inv a0) ν' F a w nt p∧Evo ν F w σ.H ν' F w (inv a0).H∧Pin p ν ν' a.defers a.defers w.heap.size)
 (h:∀x,GW P nt p c (inv x) (Exit.thenS (fun σ'=>∃x',m x'<m x∧∀ν F a w,RS σ' ν F a w nt p→∃ν',RS (inv x') ν' F a w nt p∧Evo ν F w σ'.H ν' F w (inv x').H∧Pin p ν ν' a.defers a.defers w.heap.size) Q)):GW P nt p (.loop c) σ Q:=by
 classical
 intro ro ν F a w hr hl
 obtain ⟨ν0,r0,e0,p0⟩:=hw ν F a w hr
 let Good (n:Nat) (a':Act) (w':World):Prop:=∃(x:α) (ν':Nu) (F':Fz),m x=n∧RS (inv x) ν' F' a' w' nt p∧Evo ν F w σ.H ν' F' w' (inv x).H∧Pin p ν ν' a.defers a'.defers w.heap.size
 let μ (a':Act) (w':World):Nat:=if h:∃n,Good n a' w' then Classical.choose (least h)else 0
 have hm:∀a' w',(∃n,Good n a' w')→Good (μ a' w') a' w'∧∀k,Good k a' w'→μ a' w'≤k:=fun a' w' h=>by
  have e:μ a' w'=Classical.choose (least h):=dif_pos h
  rw[e]
  exact Classical.choose_spec (least h)
 refine wpIn_loop (fun a' w'=>∃n,Good n a' w') μ ⟨_,a0,ν0,F,rfl,r0,e0,p0⟩ ?_
 intro a1 w1 hg
 obtain ⟨⟨x,ν1,F1,hn,hr1,he1,hp1⟩,hmin⟩:=hm a1 w1 hg
 refine GPost.from (h x) hr1 (hl.evo hr.rel he1) he1 hp1 fun e a2 w2 ⟨σ2,ν2,F2,q,r2,e2,p2⟩=> ?_
 cases e with
 |normal=>
  obtain ⟨x',hlt,hx'⟩:=q
  obtain ⟨ν3,r3,e3,p3⟩:=hx' ν2 F2 a2 w2 r2
  have hg2:Good (m x') a2 w2:=⟨x',ν3,F2,rfl,r3,e2.trans e3,p2.trans p3 e2.size⟩
  refine ⟨⟨_,hg2⟩,?_⟩
  have h1:=(hm a2 w2 ⟨_,hg2⟩).2 _ hg2
  rw[←hn]
  omega
 |exit id=>exact ⟨σ2,ν2,F2,q,r2,e2,p2⟩
 |goto l=>exact ⟨σ2,ν2,F2,q,r2,e2,p2⟩
 |ret=>exact ⟨σ2,ν2,F2,q,r2,e2,p2⟩
 |panic ch=>exact ⟨σ2,ν2,F2,q,r2,e2,p2⟩
 |outgrown=>exact ⟨σ2,ν2,F2,q,r2,e2,p2⟩
theorem Weak.rsN [Laid] {nt p:Nat} {ρ:Nat→Nat} {σ τ:St} (hw:Weak p ρ σ τ) {ν:Nu} {F:Fz} {a:Act} {w:World} (hr:RS σ ν F a w nt p):∃ν',RS τ ν' F a w nt p∧Evo ν F w σ.H ν' F w τ.H∧Pin p ν ν' a.defers a.defers w.heap.size∧∀i b,τ.H i=some b→ν' i=ν (ρ i)∧(σ.H (ρ i)).isSome=true:=by
 have hH:∀i b,τ.H i=some b→σ.H (ρ i)=some (b.ren ρ)∧b.lt τ.next=true∧i<τ.next:=fun i b hb=>wkH_get τ.hp hw.heap hb
 have hk:∀i,i<τ.next→cutNu τ.next ρ ν i=ν (ρ i):=fun i hi=>if_pos hi
 refine ⟨cutNu τ.next ρ ν,⟨hw.pin,fun t=>wkT_get (hr.vals t) τ.tmps hw.tmps,⟨fun i j r k k' hi hj e e'=> ?_,fun i b hb=> ?_,hr.rel.old,hr.rel.glob⟩,hr.defers,fun i hi=>if_neg (by omega),hr.size,fun i hi=> ?_⟩,
  ⟨Keep.refl _ _,rfl,rfl,rfl,Nat.le_refl _,fun _ _ _=>rfl,fun r hm=> .inl ?_,fun _ _ h=> .inl h⟩,Pin.of _ rfl (fun i hi=> ?_),fun i b hb=>by obtain ⟨a1,_,a3⟩:=hH i b hb;exact ⟨hk i a3,by rw[a1];rfl⟩⟩
 ·obtain ⟨b,hb⟩:=Option.isSome_iff_exists.1 hi
  obtain ⟨b',hb'⟩:=Option.isSome_iff_exists.1 hj
  obtain ⟨a1,_,a3⟩:=hH i b hb
  obtain ⟨c1,_,c3⟩:=hH j b' hb'
  rw[hk i a3]at e
  rw[hk j c3]at e'
  exact hw.one i j hi hj (hr.rel.inj _ _ r k k' (by rw[a1];rfl) (by rw[c1];rfl) e e')
 ·obtain ⟨a1,a2,a3⟩:=hH i b hb
  rw[hk i a3]
  exact (hr.rel.blk _ _ a1).ren a2
 ·cases hb:τ.H i with
  |none=>rfl
  |some b=>have:=(hH i b hb).2.2;omega
 ·obtain ⟨i,k,hi,e⟩:=hm
  obtain ⟨b,hb⟩:=Option.isSome_iff_exists.1 hi
  obtain ⟨a1,_,a3⟩:=hH i b hb
  rw[hk i a3]at e
  exact ⟨ρ i,k,by rw[a1];rfl,e⟩
 ·have:=hw.pin
  rw[hk i (by omega),hw.par i hi]
theorem Weak.rs [Laid] {nt p:Nat} {ρ:Nat→Nat} {σ τ:St} (hw:Weak p ρ σ τ) {ν:Nu} {F:Fz} {a:Act} {w:World} (hr:RS σ ν F a w nt p):∃ν',RS τ ν' F a w nt p∧Evo ν F w σ.H ν' F w τ.H∧Pin p ν ν' a.defers a.defers w.heap.size:=by
 obtain ⟨ν',h1,h2,h3,_⟩:=hw.rsN hr
 exact ⟨ν',h1,h2,h3⟩
def eqV:Value→Value→Option (List Prop)
 | .int k a,.int k' b=>bif kindEq k k' then some [a=b]else none
 | .bool a,.bool b=>some [a=b]
 | .string a,.string b=>some [a=b]
 |a,b=>some [a=b]
theorem eqV_sound {a b:Value} {ps:List Prop} (h:eqV a b=some ps) (hp:AllP ps):a=b:=by
 unfold eqV at h
 split at h
 ·rename_i k x k' y
  cases hk:kindEq k k' with
  |false=>rw[hk]at h;cases h
  |true=>
   rw[hk]at h;cases h
   rw[kindEq_spec hk,show x=y from hp]
 ·cases h;rw[show _=_ from hp]
 ·cases h;rw[show _=_ from hp]
 ·cases h;exact hp
def offE:Nat→Nat→List Prop→Option (List Prop)
 |0,0,l=>some l
 |i+1,j+1,l=>some (l++ [i=j])
 |_,_,_=>none
theorem offE_sound {i j n m:Nat} {ps:List Prop} (h:offE i j [n=m]=some ps) (hp:AllP ps):i=j∧n=m:=by
 unfold offE at h
 split at h
 ·cases h;exact ⟨rfl,hp⟩
 ·cases h;exact ⟨congrArg (·+1) hp.2,hp.1⟩
 ·cases h
def entG (ρ:Nat→Nat):G→G→Option (List Prop)
 |_,.junk=>some []
 | .d (.sc a),.d (.sc b)=>eqV a b
 | .d x,.d y=>some [x=y]
 | .ptr b es i f,.ptr b' es' i' f'=>bif Nat.beq b (ρ b')&&Nat.beq es es'&&Nat.beq f f' then some [i=i']else none
 | .sl b es i n,.sl b' es' i' n'=>bif Nat.beq b (ρ b')&&Nat.beq es es' then offE i i' [n=n']else none
 | .mp b,.mp b'=>bif Nat.beq b (ρ b')then some []else none
 |g,g'=>some [g=g'.ren ρ]
theorem entG_sound {ρ:Nat→Nat} {g g':G} {ps:List Prop} (h:entG ρ g g'=some ps) (hp:AllP ps):Ent g (g'.ren ρ):=by
 unfold entG at h
 split at h
 ·exact Ent.junk _
 ·refine Ent.of_eq ?_
  rw[eqV_sound h hp];rfl
 ·cases h
  exact Ent.of_eq (by rw[show _=_ from hp];rfl)
 ·rename_i b es i f b' es' i' f'
  cases hb:(Nat.beq b (ρ b')&&Nat.beq es es'&&Nat.beq f f')with
  |false=>rw[hb]at h;cases h
  |true=>
   rw[hb]at h;cases h
   simp only[Bool.and_eq_true]at hb
   refine Ent.of_eq ?_
   rw[show i=i' from hp,Nat.eq_of_beq_eq_true hb.1.1,Nat.eq_of_beq_eq_true hb.1.2,Nat.eq_of_beq_eq_true hb.2]
   rfl
 ·rename_i b es i n b' es' i' n'
  cases hb:(Nat.beq b (ρ b')&&Nat.beq es es')with
  |false=>rw[hb]at h;cases h
  |true=>
   rw[hb]at h
   obtain ⟨e1,e2⟩:=offE_sound h hp
   simp only[Bool.and_eq_true]at hb
   refine Ent.of_eq ?_
   rw[e1,e2,Nat.eq_of_beq_eq_true hb.1,Nat.eq_of_beq_eq_true hb.2]
   rfl
 ·rename_i b b'
  cases hb:Nat.beq b (ρ b')with
  |false=>rw[hb]at h;cases h
  |true=>exact Ent.of_eq (by rw[Nat.eq_of_beq_eq_true hb];rfl)
 ·cases h;exact Ent.of_eq hp
def wkTO (ρ:Nat→Nat) (n:Nat) (tm:List (Nat×G)):List (Nat×G)→Option (List Prop)
 | []=>some []
 |(t,g)::l=>bif g.lt n then match entG ρ (getG tm t) g,wkTO ρ n tm l with
    |some p,some q=>some (catP p q)
    |_,_=>none
  else none
def eqL (ρ:Nat→Nat):List G→List G→Option (List Prop)
 | [],[]=>some []
 |g::l,g'::l'=>match eqG ρ g g',eqL ρ l l' with
  |some p,some q=>some (catP p q)
  |_,_=>none
 |_,_=>none
 where eqG (ρ:Nat→Nat):G→G→Option (List Prop)
 | .d (.sc a),.d (.sc b)=>eqV a b
 | .d x,.d y=>some [x=y]
 | .ptr b es i f,.ptr b' es' i' f'=>bif Nat.beq b (ρ b')&&Nat.beq es es'&&Nat.beq f f' then some [i=i']else none
 | .sl b es i n,.sl b' es' i' n'=>bif Nat.beq b (ρ b')&&Nat.beq es es' then offE i i' [n=n']else none
 |g,g'=>some [g=g'.ren ρ]
def wkB (ρ:Nat→Nat):Option Blk→Blk→Option (List Prop)
 |some (.box cs),.box cs'=>eqL ρ cs cs'
 |some (.row ty es df cs xs fz),.row ty' es' df' cs' xs' fz'=>bif Nat.beq ty ty'&&Nat.beq es es' then some [Blk.row ty es df cs xs fz=Blk.row ty es df' cs' xs' fz']else none
 |some (.mp L),.mp L'=>some [L=L']
 |_,_=>none
def wkHO (ρ:Nat→Nat) (n:Nat) (hp:List (Nat×Option Blk)):List (Nat×Option Blk)→Option (List Prop)
 | []=>some []
 |(i,some b)::l=>bif b.lt n&&Nat.ble (i+1) n then match wkB ρ (look hp noHp (ρ i)) b,wkHO ρ n hp l with
    |some p,some q=>some (catP p q)
    |_,_=>none
  else none
 |(_,none)::l=>wkHO ρ n hp l
def oneO (ρ:Nat→Nat):List (Nat×Option Blk)→Bool
 | []=>true
 |(i,_)::l=>(l.all fun q=>Nat.beq i q.1|| !Nat.beq (ρ i) (ρ q.1))&&oneO ρ l
def parO (ρ:Nat→Nat):Nat→Bool
 |0=>true
 |n+1=>Nat.beq (ρ n) n&&parO ρ n
def weakO (p:Nat) (ρ:Nat→Nat) (σ τ:St):Option (List Prop):=
 match τ with
 |⟨tm',hp',n'⟩=>bif oneO ρ hp'&&parO ρ p&&Nat.ble p n' then match wkTO ρ n' σ.tmps tm',wkHO ρ n' σ.hp hp' with
  |some a,some b=>some (catP a b)
  |_,_=>none
  else none
theorem eqL_sound {ρ:Nat→Nat} :∀ {l l':List G} {ps:List Prop},eqL ρ l l'=some ps→AllP ps→l=G.renL ρ l':=by
 intro l
 induction l with
 |nil=>intro l' ps h _;cases l' with
  |nil=>rfl
  |cons=>simp[eqL]at h
 |cons g l ih=>
  intro l' ps h hp
  cases l' with
  |nil=>simp[eqL]at h
  |cons g' l'=>
   simp only[eqL]at h
   split at h
   ·rename_i p q h1 h2
    cases h
    obtain ⟨q1,q2⟩:=catP_spec hp
    rw[ih h2 q2,G.renL]
    congr 1
    unfold eqL.eqG at h1
    split at h1
    ·rw[eqV_sound h1 q1];rfl
    ·cases h1;rw[show _=_ from q1];rfl
    ·rename_i b es i f b' es' i' f'
     cases hb:(Nat.beq b (ρ b')&&Nat.beq es es'&&Nat.beq f f')with
     |false=>rw[hb]at h1;cases h1
     |true=>
      rw[hb]at h1;cases h1
      simp only[Bool.and_eq_true]at hb
      rw[show i=i' from q1,Nat.eq_of_beq_eq_true hb.1.1,Nat.eq_of_beq_eq_true hb.1.2,Nat.eq_of_beq_eq_true hb.2]
      rfl
    ·rename_i b es i n b' es' i' n'
     cases hb:(Nat.beq b (ρ b')&&Nat.beq es es')with
     |false=>rw[hb]at h1;cases h1
     |true=>
      rw[hb]at h1
      obtain ⟨e1,e2⟩:=offE_sound h1 q1
      simp only[Bool.and_eq_true]at hb
      rw[e1,e2,Nat.eq_of_beq_eq_true hb.1,Nat.eq_of_beq_eq_true hb.2]
      rfl
    ·cases h1;exact q1
   ·cases h
theorem wkTO_sound {ρ:Nat→Nat} {n:Nat} {σ:St} :∀ {l:List (Nat×G)} {ps:List Prop},wkTO ρ n σ.tmps l=some ps→AllP ps→wkT ρ n σ l:=by
 intro l
 induction l with
 |nil=>intro ps _ _;trivial
 |cons x l ih=>
  obtain ⟨t,g⟩:=x
  intro ps h hp
  simp only[wkTO]at h
  cases hl:g.lt n with
  |false=>rw[hl]at h;cases h
  |true=>
   rw[hl]at h
   simp only[cond_true]at h
   split at h
   ·rename_i p q h1 h2
    cases h
    obtain ⟨q1,q2⟩:=catP_spec hp
    exact ⟨⟨⟨_,rfl,entG_sound h1 q1⟩,hl⟩,ih h2 q2⟩
   ·cases h
theorem wkHO_sound {ρ:Nat→Nat} {n:Nat} {σ:St} :∀ {l:List (Nat×Option Blk)} {ps:List Prop},wkHO ρ n σ.hp l=some ps→AllP ps→wkH ρ n σ l:=by
 intro l
 induction l with
 |nil=>intro ps _ _;trivial
 |cons x l ih=>
  obtain ⟨i,ob⟩:=x
  intro ps h hp
  cases ob with
  |none=>exact ih h hp
  |some b=>
   simp only[wkHO]at h
   cases hl:(b.lt n&&Nat.ble (i+1) n)with
   |false=>rw[hl]at h;cases h
   |true=>
    rw[hl]at h
    simp only[cond_true]at h
    simp only[Bool.and_eq_true]at hl
    split at h
    ·rename_i p q h1 h2
     cases h
     obtain ⟨q1,q2⟩:=catP_spec hp
     refine ⟨⟨?_,hl.1,Nat.le_of_ble_eq_true hl.2⟩,ih h2 q2⟩
     show look σ.hp noHp (ρ i)=_
     unfold wkB at h1
     split at h1
     ·rename_i cs cs' e
      rw[e,eqL_sound h1 q1];rfl
     ·rename_i α ty es df cs xs fz β ty' es' df' cs' xs' fz' e
      cases hb:(Nat.beq ty ty'&&Nat.beq es es')with
      |false=>rw[hb]at h1;cases h1
      |true=>
       rw[hb]at h1;cases h1
       simp only[Bool.and_eq_true]at hb
       rw[e,show _=_ from q1,Nat.eq_of_beq_eq_true hb.1,Nat.eq_of_beq_eq_true hb.2]
       rfl
     ·rename_i L L' e
      cases h1
      rw[e,show L=L' from q1]
      rfl
     ·cases h1
    ·cases h
theorem oneO_sound {ρ:Nat→Nat} :∀ {l:List (Nat×Option Blk)},oneO ρ l=true→∀i j,i∈l.map (·.1)→j∈l.map (·.1)→ρ i=ρ j→i=j:=by
 intro l
 induction l with
 |nil=>intro _ i j h;simp at h
 |cons x l ih=>
  obtain ⟨k,ob⟩:=x
  intro h i j hi hj e
  simp only[oneO,Bool.and_eq_true,List.all_eq_true]at h
  simp only[List.map_cons,List.mem_cons]at hi hj
  have key:∀y,y∈l.map (·.1)→ρ k=ρ y→k=y:=fun y hy e=>by
   obtain ⟨q,hq1,hq2⟩:=List.mem_map.1 hy
   have:=h.1 q hq1
   rw[hq2]at this
   simp only[Bool.or_eq_true,Bool.not_eq_true']at this
   rcases this with h|h
   ·exact Nat.eq_of_beq_eq_true h
   ·rw[e,Nat.beq_refl]at h;cases h
  rcases hi with rfl|hi<;>rcases hj with rfl|hj
  ·rfl
  ·exact key j hj e
  ·exact (key i hi e.symm).symm
  ·exact ih h.2 i j hi hj e
theorem look_dom {l:List (Nat×Option Blk)} {i:Nat} (h:(look l noHp i).isSome=true):i∈l.map (·.1):=by
 exact Classical.byContradiction fun hn=>by rw[look_other _ _ _ hn]at h;cases h
theorem weakO_sound {p:Nat} {ρ:Nat→Nat} {σ τ:St} {ps:List Prop} (h:weakO p ρ σ τ=some ps) (hp:AllP ps):Weak p ρ σ τ:=by
 obtain ⟨tm',hp',n'⟩:=τ
 simp only[weakO]at h
 cases hb:(oneO ρ hp'&&parO ρ p&&Nat.ble p n')with
 |false=>rw[hb]at h;cases h
 |true=>
  rw[hb]at h
  simp only[cond_true]at h
  simp only[Bool.and_eq_true]at hb
  split at h
  ·rename_i a b h1 h2
   cases h
   obtain ⟨q1,q2⟩:=catP_spec hp
   refine ⟨wkTO_sound h1 q1,wkHO_sound h2 q2,fun i j hi hj e=>oneO_sound hb.1.1 i j (look_dom hi) (look_dom hj) e,?_,Nat.le_of_ble_eq_true hb.2⟩
   have hpar:=hb.1.2
   clear h1 h2 hp q1 q2 hb
   induction p with
   |zero=>intro i hi;omega
   |succ p ih=>
    simp only[parO,Bool.and_eq_true]at hpar
    intro i hi
    by_cases e:i=p
    ·subst e;exact Nat.eq_of_beq_eq_true hpar.1
    ·exact ih hpar.2 i (by omega)
  ·cases h
theorem gw_for [Laid] {P:Program} {nt p:Nat} {σ:St} {Q:Exit→St→Prop} {c:Code} {α:Type 1} (inv:α→St) (m:α→Nat) (a0:α) (ρ:Nat→Nat) {ps:List Prop} (h0:weakO p ρ σ (inv a0)=some ps) (hp:AllP ps)
 (h:∀x,GW P nt p c (inv x) (Exit.thenS (fun σ'=>∃x' ρ' qs,weakO p ρ' σ' (inv x')=some qs∧AllP qs∧m x'<m x) Q)):GW P nt p (.loop c) σ Q:=
 gw_rounds inv m a0 (fun ν F a w hr=>(weakO_sound h0 hp).rs hr) fun x=>gw_mono (h x) fun e σ' hq=>by
  cases e with
  |normal=>
   obtain ⟨x',ρ',qs,h1,h2,h3⟩:=hq
   exact ⟨x',h3,fun ν F a w hr=>(weakO_sound h1 h2).rs hr⟩
  |_=>exact hq
theorem gw_cut [Laid] {P:Program} {nt p:Nat} {c:Code} {σ:St} (τ:St) (ρ:Nat→Nat) {Q:Exit→St→Prop} {ps:List Prop} (h0:weakO p ρ σ τ=some ps) (hp:AllP ps) (h:GW P nt p c τ Q):GW P nt p c σ Q:=
 gw_weak ρ (weakO_sound h0 hp) h
end Go.Gh
namespace Go.Gh
open Go Go.RowKit
set_option linter.unusedVariables false
theorem size_pos {s:ByteArray} (h:¬s=⟨#[]⟩):(0:Int)<s.size:=by
 rcases Nat.eq_zero_or_pos s.size with h0|h0
 ·refine absurd ?_ h
  cases s with|mk d=>
  have:d.size=0:=h0
  rw[Array.eq_empty_of_size_eq_zero this]
 ·omega
theorem toN:(∀n:Nat,Int.toNat (n:Int)=n)∧Int.toNat 0=0∧Int.toNat 1=1∧∀n:Nat,0+n=n:=⟨fun _=>rfl,rfl,rfl,Nat.zero_add⟩
theorem bb:(∀(q:Prop) (i:Decidable q),(@decide q i=true)=q)∧(∀(q:Prop) (i:Decidable q),(@decide q i=false)=¬q)∧(∀a b:Bool,((a&&b)=true)=(a=true∧b=true))∧(∀a b:Bool,((a||b)=true)=(a=true∨b=true))∧
 (∀a b:Bool,((a&&b)=false)=(a=false∨b=false))∧(∀a b:Bool,((a||b)=false)=(a=false∧b=false))∧(∀a:Bool,((!a)=true)=(a=false))∧(∀a:Bool,((!a)=false)=(a=true))∧(∀q:Prop,(¬¬q)=q)∧(∀(a b:Int),(¬a<b)=(b≤a))∧(∀(a b:Int),(¬a≤b)=(b<a))∧(∀a b:Bool,(bif a then b else false)=(a&&b))∧(∀a b:Bool,(bif a then true else b)=(a||b)):=
 ⟨fun q i=>by simp,fun q i=>by simp,fun a b=>by simp,fun a b=>by simp,fun a b=>by cases a<;>cases b<;>simp,fun a b=>by simp,fun a=>by simp,fun a=>by simp,fun q=>by simp,fun a b=>by simp,fun a b=>by simp,fun a b=>by cases a<;>rfl,fun a b=>by cases a<;>rfl⟩
inductive Kont:Type 1
 |seq (c:Code)
 |block (id:Nat)
 |goal (T:St→Prop)
section
variable (P:Program) (nt p:Nat) (R:Exit→St→Prop)
def kQ [Laid]:List Kont→Exit→St→Prop
 | [],e,σ=>R e σ
 | .seq y::K,e,σ=>Exit.thenS (fun σ'=>GW P nt p y σ' (kQ K)) (kQ K) e σ
 | .block id::K,e,σ=>Exit.blockS id (kQ K) e σ
 | .goal T::K,e,σ=>Exit.thenS T (kQ K) e σ
def GK [Laid] (c:Code) (K:List Kont) (σ:St):Prop:=
 match c with
 | .skip=>kQ P nt p R K .normal σ
 | .exit id=>kQ P nt p R K (.exit id) σ
 | .ret=>kQ P nt p R K .ret σ
 |c=>GW P nt p c σ (kQ P nt p R K)
end
variable {P:Program} {nt p:Nat} {R:Exit→St→Prop} {c c':Code} {K K':List Kont} {σ:St}
theorem GK.gw [Laid] (h:GK P nt p R c K σ):GW P nt p c σ (kQ P nt p R K):=by
 cases c<;>first|exact gw_skip h|exact gw_exit h|exact gw_ret h|exact h
def endsR:List Oper→Bool
 | []=>false
 |o::l=>match l,o.op with
  | [],.range _ _=>true
  | [],_=>false
  |l,_=>endsR l
def nrm:Nat→Code→List Kont→Option (Code×List Kont)
 |0,_,_=>none
 |n+1,.seq (.region i ops d) (.block j (.loop z)),K=>bif endsR ops.toList then some (.seq (.region i ops d) (.block j (.loop z)),K)else nrm n (.region i ops d) (.seq (.block j (.loop z))::K)
 |n+1,.seq x y,K=>nrm n x (.seq y::K)
 |n+1,.block id c,K=>nrm n c (.block id::K)
 |n+1,.label _,K=>nrm n .skip K
 |n+1,.skip,.seq y::K=>nrm n y K
 |n+1,.skip,.block _::K=>nrm n .skip K
 |n+1,.exit id,.seq _::K=>nrm n (.exit id) K
 |n+1,.exit id,.goal _::K=>nrm n (.exit id) K
 |n+1,.exit id,.block j::K=>bif Nat.beq id j then nrm n .skip K else nrm n (.exit id) K
 |_+1,c,K=>some (c,K)
theorem nrm_sound [Laid]:∀ {n:Nat} {c:Code} {K:List Kont},nrm n c K=some (c',K')→GK P nt p R c' K' σ→GK P nt p R c K σ:=by
 intro n
 induction n with
 |zero=>intro c K h;cases h
 |succ n ih=>
  intro c K h hk
  unfold nrm at h
  split at h
  ·rename_i e;cases e
  ·rename_i i ops d j z e
   cases e
   cases hb:endsR ops.toList with
   |true=>rw[hb]at h;cases h;exact hk
   |false=>rw[hb]at h;exact gw_seq (ih h hk).gw
  ·rename_i e;cases e;exact gw_seq (ih h hk).gw
  ·rename_i e;cases e;exact gw_block (ih h hk).gw
  ·rename_i e;cases e;exact gw_label (ih h hk)
  ·rename_i e;cases e;exact (ih h hk).gw
  ·rename_i e;cases e;exact (ih h hk:GK P nt p R .skip _ σ)
  ·rename_i id y K1 e;cases e;exact (ih h hk:GK P nt p R (.exit id) K1 σ)
  ·rename_i id y K1 e;cases e;exact (ih h hk:GK P nt p R (.exit id) K1 σ)
  ·rename_i id j K1 e
   cases e
   show (if id=j then kQ P nt p R K1 .normal σ else kQ P nt p R K1 (.exit id) σ)
   cases hb:Nat.beq id j with
   |true=>
    rw[hb]at h
    rw[if_pos (Nat.eq_of_beq_eq_true hb)]
    exact (ih h hk:GK P nt p R .skip K1 σ)
   |false=>
    rw[hb]at h
    rw[if_neg (fun e=>by rw[e,Nat.beq_refl]at hb;cases hb)]
    exact (ih h hk:GK P nt p R (.exit id) K1 σ)
  ·cases h;exact hk
theorem kQ_ret [Laid] {σ:St} :∀(K:List Kont),R .ret σ→kQ P nt p R K .ret σ:=by
 intro K
 induction K with
 |nil=>exact id
 |cons k K ih=>intro h;cases k<;>exact ih h
def nfH (seen:List Nat):List (Nat×Option Blk)→Option (List (Nat×Option Blk))
 | []=>some []
 |(i,ob)::l=>match seen.any (fun j=>Nat.beq i j),ob,nfH (i::seen) l with
  |true,_,_=>nfH seen l
  |false,some b,some r=>some ((i,some b)::r)
  |false,none,some r=>some r
  |_,_,none=>none
theorem nfH_look:∀(l:List (Nat×Option Blk)) (seen:List Nat) (r:List (Nat×Option Blk)),nfH seen l=some r→∀i,look r noHp i=if i∈seen then none else look l noHp i:=by
 intro l
 induction l with
 |nil=>intro seen r h i;cases h;show none=_;split<;>rfl
 |cons x l ih=>
  obtain ⟨k,ob⟩:=x
  intro seen r h i
  have hlk:look ((k,ob)::l) noHp i=if i=k then ob else look l noHp i:=by
   show (bif Nat.beq i k then _ else _)=_
   cases hb:Nat.beq i k with
   |true=>rw[if_pos (Nat.eq_of_beq_eq_true hb)];rfl
   |false=>rw[if_neg (fun e=>by rw[e,Nat.beq_refl]at hb;cases hb)];rfl
  have hseen:(seen.any fun j=>Nat.beq k j)=true↔k∈seen:=by
   rw[List.any_eq_true]
   exact ⟨fun ⟨j,h1,h2⟩=>by rw[Nat.eq_of_beq_eq_true h2];exact h1,fun h=>⟨k,h,Nat.beq_refl k⟩⟩
  rw[hlk]
  simp only[nfH]at h
  split at h
  ·rename_i h1
   rw[ih _ _ h]
   have:=hseen.1 h1
   by_cases hi:i∈seen
   ·rw[if_pos hi,if_pos hi]
   ·rw[if_neg hi,if_neg hi,if_neg (fun e=>hi (by rw[e];exact this))]
  ·rename_i b r' h1 h3
   cases h
   have hk:¬k∈seen:=fun e=>by rw[hseen.2 e]at h1;cases h1
   show (bif Nat.beq i k then some b else look r' noHp i)=_
   cases hb:Nat.beq i k with
   |true=>have:=Nat.eq_of_beq_eq_true hb;subst this;rw[if_neg hk,if_pos rfl];rfl
   |false=>
    have hne:i≠k:=fun e=>by rw[e,Nat.beq_refl]at hb;cases hb
    rw[if_neg hne]
    show look r' noHp i=_
    rw[ih _ _ h3]
    by_cases hi:i∈seen
    ·rw[if_pos hi,if_pos (List.mem_cons_of_mem _ hi)]
    ·rw[if_neg hi,if_neg (fun e=>by rcases List.mem_cons.1 e with e|e<;>contradiction)]
  ·rename_i r' h1 h3
   cases h
   have hk:¬k∈seen:=fun e=>by rw[hseen.2 e]at h1;cases h1
   rw[ih _ _ h3]
   by_cases hi:i∈seen
   ·rw[if_pos hi,if_pos (List.mem_cons_of_mem _ hi)]
   ·rw[if_neg hi]
    by_cases hne:i=k
    ·rw[if_pos hne,if_pos (by rw[hne];exact List.mem_cons_self)]
    ·rw[if_neg hne,if_neg (fun e=>by rcases List.mem_cons.1 e with e|e<;>contradiction)]
  ·cases h
theorem nfH_eq {l r:List (Nat×Option Blk)} (h:nfH [] l=some r):look r noHp=look l noHp:=funext fun i=>by rw[nfH_look l [] r h];simp
def nfP:List Prop→Option (List Prop)
 | []=>some []
 |p::l=>match nfP l with
  |some l'=>some (p::l')
  |none=>none
theorem nfP_eq:∀ {l l':List Prop},nfP l=some l'→l=l':=by
 intro l
 induction l with
 |nil=>intro l' h;cases h;rfl
 |cons p l ih=>
  intro l' h
  simp only[nfP]at h
  split at h
  ·rename_i l'' e;cases h;rw[ih e]
  ·cases h
theorem gw_keep [Laid] {σ:St} {tm' tm1:List (Nat×G)} {h1 h2:List (Nat×Option Blk)} {n1:Nat} {kp:List Nat} {Q:Exit→St→Prop} (h:GW P nt p c σ (fun e σ'=>e= .normal∧σ'=⟨tm1,h1,n1⟩)) (hk:keepT tm1 kp=some tm') (hh:nfH [] h1=some h2) (hq:Q .normal ⟨tm',h2,n1⟩):GW P nt p c σ Q:=
 fun ro ν F a w hr hl=>wpIn_mono (h ro ν F a w hr hl) fun e a' w' ⟨σ',ν',F',⟨x1,x2⟩,r,e1,p1⟩=>by
  subst x1 x2
  have e:St.H ⟨tm',h2,n1⟩=St.H ⟨tm1,h1,n1⟩:=nfH_eq hh
  exact ⟨⟨tm',h2,n1⟩,ν',F',hq,⟨r.pin,fun t=>keepT_get (r.vals t) kp tm' hk,e▸r.rel,r.defers,r.free,r.size,e▸r.fresh⟩,e▸e1,p1⟩
theorem gk_region [Laid] {T:Tab} (env:Env P T) (wr:Bool) (hs:List (Hint P)) (kp:List Nat) {id:Nat} {ops:Array Oper} {draw:Bool} {tm tm' tm1:List (Nat×G)} {h0 h1 h2:List (Nat×Option Blk)} {n n1:Nat} {feet:List Foot} {pr pr':List Prop} {hs':List (Hint P)}
 (hq:GK P nt p R c' K' ⟨tm',h2,n1⟩) (h:runG P wr T nt ops ops.toList tm h0 n [] hs=some (pr,⟨tm1,h1,n1⟩,feet,hs'):=by rfl) (hok:regOk ops nt draw feet=true:=by kernel_rfl) (hk:keepT tm1 kp=some tm':=by rfl) (hh:nfH [] h1=some h2:=by rfl) (hn:nrm 1000 .skip K=some (c',K'):=by rfl) (hf:nfP pr=some pr':=by rfl)
 (hp:AllP pr':=by first|trivial|(simp only[AllP,bb,toN];repeat' first|exact trivial|exact EntL.refl _|exact BEntL.refl _|exact rfl|omega|apply And.intro|intro _|exact size_pos (by simp_all;done))):GK P nt p R (.region id ops draw) K ⟨tm,h0,n⟩:=
 gw_keep (gw_region1 env wr hs h hok (nfP_eq hf▸hp) ⟨rfl,rfl⟩) hk hh (nrm_sound hn hq:GK P nt p R .skip K _)
theorem gk_if [Laid] {x y x' y':Code} {K1 K2:List Kont} {o:Operand} {b:Bool} (h1:b=true→GK P nt p R x' K1 σ) (h2:b=false→GK P nt p R y' K2 σ) (hc:σ.ev o= .d (.sc (.bool b)):=by rfl) (n1:nrm 1000 x K=some (x',K1):=by rfl) (n2:nrm 1000 y K=some (y',K2):=by rfl):GK P nt p R (.cond o x y) K σ:=
 gw_cond hc (fun e=>(nrm_sound n1 (h1 e)).gw) (fun e=>(nrm_sound n2 (h2 e)).gw)
theorem gk_ifd [Laid] {x y x' y':Code} {K1 K2:List Kont} {o:Operand} {q:Prop} {inst:Decidable q} (h1:q→GK P nt p R x' K1 σ) (h2:¬q→GK P nt p R y' K2 σ) (hc:σ.ev o= .d (.sc (.bool (@decide q inst))):=by rfl) (n1:nrm 1000 x K=some (x',K1):=by rfl) (n2:nrm 1000 y K=some (y',K2):=by rfl):GK P nt p R (.cond o x y) K σ:=
 gk_if (fun h=>h1 (of_decide_eq_true h)) (fun h=>h2 (of_decide_eq_false h)) hc n1 n2
theorem gk_ifn [Laid] {x y x' y':Code} {K1 K2:List Kont} {o:Operand} {q:Prop} {inst:Decidable q} (h1:¬q→GK P nt p R x' K1 σ) (h2:q→GK P nt p R y' K2 σ) (hc:σ.ev o= .d (.sc (.bool (!@decide q inst))):=by rfl) (n1:nrm 1000 x K=some (x',K1):=by rfl) (n2:nrm 1000 y K=some (y',K2):=by rfl):GK P nt p R (.cond o x y) K σ:=
 gk_if (fun h=>h1 (by simpa using h)) (fun h=>h2 (by simpa using h)) hc n1 n2
def isWork:Code→Bool
 | .skip=>false
 | .exit _=>false
 | .ret=>false
 |_=>true
theorem gk_work [Laid] (hw:isWork c=true) (h:GW P nt p c σ (kQ P nt p R K)):GK P nt p R c K σ:=by
 cases c<;>first|exact h|cases hw
theorem VR.nil_row {ν:Nu} {F:Fz} {w:World} {n es:Nat} {v:Value} (h:VR ν F w (.d (.sc (.slice none 0 0))) v):VR ν F w (.sl n es 0 0) v:=by
 cases h with
 |d h=>cases h with
  |sc _ _=>exact .sl _ _ _ _ _ _ (fun h=>absurd h (Nat.lt_irrefl _)) (fun _ _=> .inr ⟨rfl,rfl⟩) (Nat.le_refl _)
theorem RS.nil [Laid] {tm tm':List (Nat×G)} {hp hp':List (Nat×Option Blk)} {n ty es:Nat} {α:Type} {df:α} {cs:α→List D} {ν:Nu} {F:Fz} {a:Act} {w:World} (h:RS ⟨tm,hp,n⟩ ν F a w nt p) (ht:∀t v,VR ν F w (getG tm t) v→VR ν F w (getG tm' t) v)
 (hh:∀i b,look hp' noHp i=some b→(look hp noHp i).isSome=true∧BR ν F w (ν i) b∨i=n∧b= .row ty es df cs [] 0) (hd:∀i,i≠n→(look hp noHp i).isSome=false→look hp' noHp i=none):
 RS ⟨tm',hp',n+1⟩ ν F a w nt p∧Evo ν F w (St.H ⟨tm,hp,n⟩) ν F w (St.H ⟨tm',hp',n+1⟩):=by
 have hn:ν n=none:=h.free n (Nat.le_refl _)
 have hsome:∀i,(look hp' noHp i).isSome=true→(look hp noHp i).isSome=true∨i=n:=fun i hi=>by
  obtain ⟨b,hb⟩:=Option.isSome_iff_exists.1 hi
  rcases hh i b hb with h|h
  ·exact .inl h.1
  ·exact .inr h.1
 refine ⟨⟨Nat.le_succ_of_le h.pin,fun t=>ht t _ (h.vals t),⟨fun i j r k k' hi hj e e'=> ?_,fun i b hb=> ?_,h.rel.old,h.rel.glob⟩,h.defers,fun i hi=>h.free i (Nat.le_of_succ_le hi),h.size,fun i hi=> ?_⟩,
  ⟨Keep.refl _ _,rfl,rfl,rfl,Nat.le_refl _,fun _ _ _=>rfl,fun r hm=> ?_,fun _ _ h=> .inl h⟩⟩
 ·rcases hsome i hi with hi|rfl
  ·rcases hsome j hj with hj|rfl
   ·exact h.rel.inj i j r k k' hi hj e e'
   ·rw[hn]at e';cases e'
  ·rw[hn]at e;cases e
 ·rcases hh i b hb with h|⟨rfl,rfl⟩
  ·exact h.2
  ·rw[hn];exact .inl ⟨rfl,rfl,rfl⟩
 ·have h1:=h.fresh i (Nat.le_of_succ_le hi)
  exact hd i (by show i≠n;have:n+1≤i:=hi;omega) (by rw[show look hp noHp i=none from h1];rfl)
 ·obtain ⟨i,k,hi,e⟩:=hm
  rcases hsome i hi with hi|rfl
  ·exact .inl ⟨i,k,hi,e⟩
  ·rw[hn]at e;cases e
theorem gk_nil [Laid] (t ty es:Nat) {α:Type} (df:α) (cs:α→List D) {tm:List (Nat×G)} {hp:List (Nat×Option Blk)} {n:Nat} (hw:isWork c=true) (ht:getG tm t= .d (.sc (.slice none 0 0))) (h:GK P nt p R c K ⟨(t,.sl n es 0 0)::tm,(n,some (.row ty es df cs [] 0))::hp,n+1⟩):GK P nt p R c K ⟨tm,hp,n⟩:=by
 refine gk_work hw fun ro ν F a w hr hlv=> ?_
 have hl:∀i,look ((n,some (.row ty es df cs [] 0))::hp) noHp i=if i=n then some (.row ty es df cs [] 0)else look hp noHp i:=fun i=>by
  show (bif Nat.beq i n then _ else _)=_
  cases hb:Nat.beq i n with
  |true=>rw[if_pos (Nat.eq_of_beq_eq_true hb)];rfl
  |false=>rw[if_neg (fun e=>by rw[e,Nat.beq_refl]at hb;cases hb)];rfl
 obtain ⟨r2,e2⟩:=hr.nil (tm':=(t,.sl n es 0 0)::tm) (hp':=(n,some (.row ty es df cs [] 0))::hp) (ty:=ty) (es:=es) (df:=df) (cs:=cs) (fun t' v hv=>by
  show VR ν F w (bif Nat.beq t' t then _ else _) v
  cases hb:Nat.beq t' t with
  |true=>rw[Nat.eq_of_beq_eq_true hb,ht]at hv;exact hv.nil_row
  |false=>exact hv)
  (fun i b hb=>by
   rw[hl]at hb
   split at hb
   ·rename_i e;cases hb;exact .inr ⟨e,rfl⟩
   ·exact .inl ⟨by rw[hb];rfl,hr.rel.blk i b hb⟩)
  (fun i hi hs=>by rw[hl,if_neg hi];exact Option.isNone_iff_eq_none.1 (by rw[←Option.not_isSome,hs];rfl))
 exact GPost.from h.gw r2 hlv e2 (Pin.refl _ _ _ _) (fun _ _ _ h=>h)
def pairG:G→G→List (Nat×Nat)→List (Nat×Nat)
 | .ptr b _ _ _,.ptr b' _ _ _,r=>(b',b)::r
 | .sl b _ _ _,.sl b' _ _ _,r=>(b',b)::r
 | .mp b,.mp b',r=>(b',b)::r
 |_,_,r=>r
def pairL:List G→List G→List (Nat×Nat)→List (Nat×Nat)
 |g::l,g'::l',r=>pairG g g' (pairL l l' r)
 |_,_,r=>r
def pairT (tm:List (Nat×G)):List (Nat×G)→List (Nat×Nat)
 | []=>[]
 |(t,g)::l=>pairG (getG tm t) g (pairT tm l)
def pairH (h h':List (Nat×Option Blk)):List (Nat×Nat)→List (Nat×Nat)→List (Nat×Nat)
 | [],r=>r
 |(b',b)::l,r=>match look h noHp b,look h' noHp b' with
  |some (.box cs),some (.box cs')=>pairL cs cs' (pairH h h' l r)
  |_,_=>pairH h h' l r
def nfN:List (Nat×Nat)→Option (List (Nat×Nat))
 | []=>some []
 |(a,b)::l=>match Nat.beq a b,nfN l with
  |true,some l'=>some l'
  |false,some l'=>some ((a,b)::l')
  |_,none=>none
def rhoF:List (Nat×Nat)→Nat→Nat
 | [],i=>i
 |(a,b)::l,i=>bif Nat.beq i a then b else rhoF l i
def weakA (p:Nat) (σ τ:St):Option (List Prop):=
 match σ,τ with
 |⟨tm,h,n⟩,⟨tm',h',n'⟩=>match nfN (pairH h h' (pairT tm tm') (pairT tm tm'))with
  |some l=>weakO p (rhoF l) ⟨tm,h,n⟩ ⟨tm',h',n'⟩
  |none=>none
theorem weakA_sound {σ τ:St} {ps:List Prop} (h:weakA p σ τ=some ps):∃ρ,weakO p ρ σ τ=some ps:=by
 unfold weakA at h
 split at h
 split at h
 ·exact ⟨_,h⟩
 ·cases h
def To {α:Type} (p:Nat) (I:α→Prop) (inv:α→St) (σ:St):Prop:=∃x ρ ps,weakO p ρ σ (inv x)=some ps∧I x∧AllP ps
theorem gk_goal [Laid] {α:Type} {I:α→Prop} {inv:α→St} (x:α) {ps ps':List Prop} (hI:I x) (h:weakA p σ (inv x)=some ps:=by rfl) (hf:nfP ps=some ps':=by rfl) (hp:AllP ps':=by simp[AllP]):GK P nt p R .skip (.goal (To p I inv)::K) σ:=(weakA_sound h).elim fun ρ h=>⟨x,ρ,ps,h,hI,nfP_eq hf▸hp⟩
def appT {α:Type 1} :List α→List α→Option (List α)
 | [],l=>some l
 |x::k,l=>match appT k l with
  |some r=>some (x::r)
  |none=>none
theorem gk_join [Laid] {α:Type} (I:α→Prop) (inv:α→St) {o:Operand} {x y:Code} (h2:∀x,I x→GK P nt p R c' K' (inv x)) (h1:GK P nt p R (.cond o x y) (.goal (To p I inv)::K) σ) (hn:nrm 1000 .skip K=some (c',K'):=by rfl):GK P nt p R (.cond o x y) K σ:=
 fun ro ν F a w hr hl=>wpIn_mono (h1.gw ro ν F a w hr hl) fun e a' w' ⟨σ',ν',F',q,r,e1,p1⟩=>by
  cases e with
  |normal=>
   obtain ⟨x,ρ,ps,h,hI,hp⟩:=q
   obtain ⟨ν2,r2,e2,p2⟩:=(weakO_sound h hp).rs r
   exact ⟨inv x,ν2,F',(nrm_sound hn (h2 x hI):GK P nt p R .skip K _),r2,e1.trans e2,p1.trans p2 e1.size⟩
  |_=>exact ⟨σ',ν',F',q,r,e1,p1⟩
def dropT (ks:List Nat):List (Nat×G)→List (Nat×G)
 | []=>[]
 |(t,g)::l=>bif ks.any (fun j=>Nat.beq t j)then dropT ks l else (t,g)::dropT ks l
def St.over (σ:St) (tm:List (Nat×G)) (hp:List (Nat×Option Blk)):Option St:=
 match σ with
 |⟨a,b,n⟩=>match appT tm (dropT (tm.map (·.1)) a),appT hp b with
  |some a',some b'=>match nfH [] b' with
   |some b2=>some ⟨a',b2,n⟩
   |none=>none
  |_,_=>none
def ToL {α:Type} (p:Nat) (I:α→Prop) (inv:α→St) (m:α→Nat) (x:α) (σ:St):Prop:=∃x' ρ ps,weakO p ρ σ (inv x')=some ps∧I x'∧m x'<m x∧AllP ps
theorem gk_round [Laid] {α:Type} {I:α→Prop} {inv:α→St} {m:α→Nat} {x:α} (x':α) {ps ps':List Prop} (hI:I x') (h:weakA p σ (inv x')=some ps:=by rfl) (hf:nfP ps=some ps':=by rfl) (hm:m x'<m x:=by omega) (hp:AllP ps':=by simp[AllP]):GK P nt p R .skip (.goal (ToL p I inv m x)::K) σ:=(weakA_sound h).elim fun ρ h=>⟨x',ρ,ps,h,hI,hm,nfP_eq hf▸hp⟩
theorem gk_loop [Laid] {α:Type} (I:α→Prop) (ch:α→List (Nat×G)) (chH:α→List (Nat×Option Blk)) (m:α→Nat) (a0:α) {inv:α→St} {ps ps':List Prop} {K1:α→List Kont} (hI:I a0) (h:∀x,I x→GK P nt p R c' (K1 x) (inv x)) (hi:∀x,σ.over (ch x) (chH x)=some (inv x):=by exact fun _=>rfl) (h0:weakA p σ (inv a0)=some ps:=by rfl) (hf:nfP ps=some ps':=by rfl) (hn:∀x,nrm 1000 c (.goal (ToL p I inv m x)::K)=some (c',K1 x):=by exact fun _=>rfl)
 (hp:AllP ps':=by simp[AllP]):GK P nt p R (.loop c) K σ:=
 (weakA_sound h0).elim fun ρ h0=>gw_for (α:=ULift {x:α//I x}) (fun x=>inv x.down.1) (fun x=>m x.down.1) ⟨a0,hI⟩ ρ h0 (nfP_eq hf▸hp) fun x=>gw_mono (nrm_sound (hn x.down.1) (h x.down.1 x.down.2)).gw fun e σ' hq=>by
  cases e with
  |normal=>
   obtain ⟨x',ρ',qs,h1,h2,h3,h4⟩:=hq
   exact ⟨⟨x',h2⟩,ρ',qs,h1,h4,h3⟩
  |_=>exact hq
theorem gk_ret [Laid] {T:Tab} (env:Env P T) {fn:Func} {ps ps':List Prop} {gs:List G} {g:G} (he:tupG gs=g) (h:retO T σ fn.results.toList=some (ps,gs):=by rfl) (hf:nfP ps=some ps':=by rfl) (hp:AllP ps':=by first|trivial|simp[AllP]):GK P nt p (fun e σ=>Ends e∧RetOK P fn σ g) .ret K σ:=
 kQ_ret K ⟨.inr rfl,done env h (nfP_eq hf▸hp) (Ent.of_eq he)⟩
theorem gk_end [Laid] {T:Tab} (env:Env P T) {fn:Func} {ps ps':List Prop} {gs:List G} {g:G} (he:tupG gs=g) (h:retO T σ fn.results.toList=some (ps,gs):=by rfl) (hf:nfP ps=some ps':=by rfl) (hp:AllP ps':=by first|trivial|simp[AllP]):GK P nt p (fun e σ=>Ends e∧RetOK P fn σ g) .skip [] σ:=
 ⟨.inl rfl,done env h (nfP_eq hf▸hp) (Ent.of_eq he)⟩
theorem gc_of_gk [Laid] {f:FuncId} {fn:Func} {c:Code} {args:List G} {g:G} (hf:P.funcs[f]? =some fn)
 (h:GK P fn.ntmps 0 (fun e σ=>Ends e∧RetOK P fn σ g) c' K' ⟨argT 0 args,[],0⟩) (hb:fn.body=some c:=by rfl) (hname:(fn.name== "runtime.NumGoroutine")=false:=by rfl) (hargs:G.ltL 0 args=true:=by rfl) (hlen:Nat.ble args.length fn.ntmps=true:=by rfl) (hg:g.lt 0=true:=by rfl) (hn:nrm 1000 c []=some (c',K'):=by rfl):GC P f args g:=
 gc_of_gw hf hb hname hargs hlen hg (nrm_sound hn h:GK P fn.ntmps 0 _ c [] _).gw
abbrev iG (i:Int):G:= .d (.sc (.int .i64 i))
abbrev cG (i:Int):G:= .d (.sc (.int .u8 i))
abbrev bG (b:Bool):G:= .d (.sc (.bool b))
abbrev sG (s:ByteArray):G:= .d (.sc (.string s))
abbrev fG (k:Nat):G:= .d (.sc (.func (.func k) #[] #[]))
end Go.Gh
namespace Go.Gh
open Go Go.RowKit
set_option linter.unusedVariables false
def gV:G→Option Value
 | .d (.sc v)=>bif v.oneCell' then some v else none
 | .agg cs=>match cellV cs with
   |some r=>some (.agg r.toArray)
   |none=>none
 |_=>none
def gVs:List G→Option (List Value)
 | []=>some []
 |g::l=>match gV g,gVs l with
  |some v,some r=>some (v::r)
  |_,_=>none
def resV:G→Option Value
 | .tup gs=>match gVs gs with
   |some r=>some (.tuple r.toArray)
   |none=>none
 |g=>gV g
theorem gV_iff {ν:Nu} {F:Fz} {w:World} {g:G} {v:Value} (h:gV g=some v):VR ν F w g v∧∀u,VR ν F w g u→u=v:=by
 unfold gV at h
 split at h
 ·rename_i v'
  cases hv:v'.oneCell' with
  |false=>rw[hv]at h;cases h
  |true=>
   rw[hv]at h
   cases h
   exact ⟨.d (.sc _ hv),fun u hu=>by cases hu with|d hd=>cases hd;rfl⟩
 ·split at h
  ·rename_i cs r hr
   cases h
   obtain ⟨h1,h2,h3,h4⟩:=cellV_iff (ν:=ν) (F:=F) (w:=w) hr
   refine ⟨.agg _ _ (by simp[h1]) (by simpa using h2) (fun j g u a b=>h3 j g u a (by simpa using b)),fun u hu=> ?_⟩
   cases hu with
   |agg cs' arr e1 e2 k=>
    have:=h4 arr.toList (by simpa using e1) (fun j g u a b=>k j g u a (by simpa using b))
    rw[←this]
  ·cases h
 ·cases h
theorem gVs_iff {ν:Nu} {F:Fz} {w:World} :∀ {gs:List G} {r:List Value},gVs gs=some r→r.length=gs.length∧(∀(j:Nat) g u,gs[j]? =some g→r[j]? =some u→VR ν F w g u)∧
 ∀us:List Value,us.length=gs.length→(∀(j:Nat) g u,gs[j]? =some g→us[j]? =some u→VR ν F w g u)→us=r:=by
 intro gs
 induction gs with
 |nil=>intro r h;cases h;exact ⟨rfl,fun j g u a=>(by simp at a),fun us hl _=>List.eq_nil_of_length_eq_zero hl⟩
 |cons g gs ih=>
  intro r h
  simp only[gVs]at h
  split at h
  ·rename_i v r' hv hr
   cases h
   obtain ⟨h1,h3,h4⟩:=ih hr
   obtain ⟨g1,g2⟩:=gV_iff (ν:=ν) (F:=F) (w:=w) hv
   refine ⟨by simp[h1],fun j g u a b=> ?_,fun us hl ha=> ?_⟩
   ·cases j with
    |zero=>simp at a b;subst a;subst b;exact g1
    |succ j=>exact h3 j g u (by simpa using a) (by simpa using b)
   ·cases us with
    |nil=>simp at hl
    |cons u us=>
     rw[h4 us (by simpa using hl) (fun j g u a b=>ha (j+1) g u (by simpa using a) (by simpa using b)),g2 u (ha 0 _ u rfl rfl)]
  ·cases h
theorem resV_mk {ν:Nu} {F:Fz} {w:World} {g:G} {v:Value} (h:resV g=some v):VR ν F w g v:=by
 unfold resV at h
 split at h
 ·split at h
  ·rename_i gs r hr
   cases h
   obtain ⟨h1,h2,_⟩:=gVs_iff (ν:=ν) (F:=F) (w:=w) hr
   exact .tup _ _ (by simp[h1]) fun j g u a b=>h2 j g u a (by simpa using b)
  ·cases h
 ·exact (gV_iff h).1
theorem of_below [Laid] {ν:Nu} {F:Fz} {w w':World} {H:Hp} (hr:Rel ν F w H) (hb:Below w.heap.size w w'):Rel ν F w' H∧Evo ν F w H ν F w' H:=by
 have hk:Keep F w F w':=⟨fun _ _ h=>h,fun b o hf=>by
  have:=hr.old_lt hf
  simp only[World.cell?,hb.block b this],fun b o hf=>szAt_of (hb.block b (hr.old_lt hf))⟩
 refine ⟨⟨hr.inj,fun i b hi=>(hr.blk i b hi).keep hk (More.refl _) (fun r k e=>hb.block r (hr.mine_lt ⟨i,k,by rw[hi];rfl,e⟩)) (fun _ _ _ _=>Iff.rfl),fun b o hf=>by rw[hk.same b o hf];exact hr.old b o hf,hr.glob.keep hk⟩,
  ⟨hk,hb.os,hb.tape,hb.output,hb.size,fun r h1 _=>hb.block r h1,fun r h=> .inl h,fun b o h=> .inl h⟩⟩
theorem gc_of_old [Laid] {P:Program} {f:FuncId} {fn:Func} {c:Code} {args:List G} {vs:List Value} {g:G} {v:Value} (hf:P.funcs[f]? =some fn) (hb:fn.body=some c) (hname:(fn.name== "runtime.NumGoroutine")=false) (ha:gVs args=some vs) (hg:resV g=some v)
 (h:∀w,Calls P f vs.toArray w fun e w'=>e= .returned v∧Below w.heap.size w w'):GC P f args g:=by
 refine ⟨⟨fn,c,hf,hb,hname⟩,fun ν F w H us hr hv=> ?_⟩
 have e:us=vs.toArray:=by
  have:=(gVs_iff (ν:=ν) (F:=F) (w:=w) ha).2.2 us.toList (by simpa using hv.1) (fun j g u a b=>hv.2 j g u a (by simpa using b))
  rw[←this]
 subst e
 refine (h w).mono fun e w' ⟨h1,h2⟩=> ?_
 obtain ⟨r1,r2⟩:=of_below hr h2
 exact ⟨F,v,h1,resV_mk hg,r1,r2⟩
end Go.Gh
namespace Go.Gh
open Go Go.RowKit
set_option linter.unusedVariables false
def dL:List G→Option (List D)
 | []=>some []
 | .d x::l=>match dL l with
   |some r=>some (x::r)
   |none=>none
 |_=>none
def ep1 (b:Nat) (cs:List D):G→Option G
 | .ptr b' es i f=>match Nat.beq b' b,i with
   |true,0=>some (.ep (cs.drop f))
   |_,i=>some (.ptr b' es i f)
 |g=>g.nf
def epL (b:Nat) (cs:List D):List G→Option (List G)
 | []=>some []
 |g::l=>match ep1 b cs g,epL b cs l with
  |some g',some l'=>some (g'::l')
  |_,_=>none
def ep2 (b:Nat) (cs:List D):G→Option G
 | .fn f x y=>match epL b cs x,epL b cs y with
   |some x',some y'=>some (.fn f x' y')
   |_,_=>none
 |g=>ep1 b cs g
def epT (b:Nat) (cs:List D):List (Nat×G)→Option (List (Nat×G))
 | []=>some []
 |(t,g)::l=>match ep2 b cs g,epT b cs l with
  |some g',some l'=>some ((t,g')::l')
  |_,_=>none
def boxO (b:Nat) (tm:List (Nat×G)) (hp:List (Nat×Option Blk)):Option (List (Nat×G)×List (Nat×Option Blk)):=
 match look hp noHp b with
 |some (.box gs)=>match dL gs with
  |some cs=>match epT b cs tm,nfH [] ((b,none)::hp)with
   |some tm',some hp'=>some (tm',hp')
   |_,_=>none
  |none=>none
 |_=>none
theorem dL_eq:∀ {gs:List G} {cs:List D},dL gs=some cs→gs=cs.map .d:=by
 intro gs
 induction gs with
 |nil=>intro cs h;cases h;rfl
 |cons g gs ih=>
  intro cs h
  unfold dL at h
  split at h
  ·rename_i e;cases e
  ·rename_i x l e
   cases e
   split at h
   ·rename_i r hr;cases h;rw[ih hr];rfl
   ·cases h
  ·cases h
section
variable {ν:Nu} {F F':Fz} {w:World} {b r k:Nat} {cs:List D}
theorem ep1_sound (hb:ν b=some (r,k)) (hk:Keep F w F' w) (hep:∀f,VR ν F' w (.ep (cs.drop f)) (.pointer (some ⟨r,f,none⟩))) {g g':G} {v:Value} (h:ep1 b cs g=some g') (hv:VR ν F w g v):VR ν F' w g' v:=by
 unfold ep1 at h
 split at h
 ·rename_i b' es i f
  split at h
  ·rename_i hbb
   cases h
   have:=Nat.eq_of_beq_eq_true hbb
   subst this
   cases hv with
   |ptr _ _ _ _ r' k' hr=>
    rw[hb]at hr
    cases hr
    rw[Nat.zero_mul,Nat.zero_add]
    exact hep f
  ·cases h;exact hv.keep hk (More.refl _)
 ·rw[G.nf_eq h];exact hv.keep hk (More.refl _)
theorem epL_sound (hb:ν b=some (r,k)) (hk:Keep F w F' w) (hep:∀f,VR ν F' w (.ep (cs.drop f)) (.pointer (some ⟨r,f,none⟩))):∀ {l l':List G},epL b cs l=some l'→l'.length=l.length∧∀(j:Nat) g g' v,l[j]? =some g→l'[j]? =some g'→VR ν F w g v→VR ν F' w g' v:=by
 intro l
 induction l with
 |nil=>intro l' h;cases h;exact ⟨rfl,fun j g g' v e=>(by simp at e)⟩
 |cons g l ih=>
  intro l' h
  simp only[epL]at h
  split at h
  ·rename_i g1 l1 h1 h2
   cases h
   obtain ⟨a1,a2⟩:=ih h2
   refine ⟨by simp[a1],fun j g g' v e e' hv=> ?_⟩
   cases j with
   |zero=>simp at e e';subst e;subst e';exact ep1_sound hb hk hep h1 hv
   |succ j=>exact a2 j g g' v (by simpa using e) (by simpa using e') hv
  ·cases h
theorem ep2_sound (hb:ν b=some (r,k)) (hk:Keep F w F' w) (hep:∀f,VR ν F' w (.ep (cs.drop f)) (.pointer (some ⟨r,f,none⟩))) {g g':G} {v:Value} (h:ep2 b cs g=some g') (hv:VR ν F w g v):VR ν F' w g' v:=by
 unfold ep2 at h
 split at h
 ·split at h
  ·rename_i f x y _ _ x' y' h1 h2
   cases h
   obtain ⟨a1,a2⟩:=epL_sound hb hk hep h1
   obtain ⟨b1,b2⟩:=epL_sound hb hk hep h2
   cases hv with
   |fn f first captured fs cs' e1 e2 k1 k2=>
    refine .fn f _ _ _ _ (by rw[e1,a1]) (by rw[e2,b1]) (fun j g u hg hu=> ?_) (fun j g u hg hu=> ?_)
    ·have hlt:j<x.length:=by rw[←a1];exact (List.getElem?_eq_some_iff.1 hg).1
     exact a2 j x[j] g u (List.getElem?_eq_getElem hlt) hg (k1 j _ u (List.getElem?_eq_getElem hlt) hu)
    ·have hlt:j<y.length:=by rw[←b1];exact (List.getElem?_eq_some_iff.1 hg).1
     exact b2 j y[j] g u (List.getElem?_eq_getElem hlt) hg (k2 j _ u (List.getElem?_eq_getElem hlt) hu)
  ·cases h
 ·exact ep1_sound hb hk hep h hv
theorem epT_get (hb:ν b=some (r,k)) (hk:Keep F w F' w) (hep:∀f,VR ν F' w (.ep (cs.drop f)) (.pointer (some ⟨r,f,none⟩))) {t:Nat} {v:Value} :∀ {l l':List (Nat×G)},epT b cs l=some l'→VR ν F w (getG l t) v→VR ν F' w (getG l' t) v:=by
 intro l
 induction l with
 |nil=>intro l' h _;cases h;exact .junk _
 |cons x l ih=>
  obtain ⟨t',g⟩:=x
  intro l' h hv
  simp only[epT]at h
  split at h
  ·rename_i g1 l1 h1 h2
   cases h
   simp only[getG]at hv⊢
   cases e:Nat.beq t t' with
   |true=>rw[e]at hv;exact ep2_sound hb hk hep h1 hv
   |false=>rw[e]at hv;exact ih h2 hv
  ·cases h
end
theorem gk_box [Laid] {P:Program} {nt p:Nat} {R:Exit→St→Prop} {c:Code} {K:List Kont} (b:Nat) {tm tm':List (Nat×G)} {hp hp':List (Nat×Option Blk)} {n:Nat} (h:GK P nt p R c K ⟨tm',hp',n⟩) (hw:isWork c=true:=by rfl) (hb:boxO b tm hp=some (tm',hp'):=by rfl):GK P nt p R c K ⟨tm,hp,n⟩:=by
 refine gk_work hw fun ro ν F a w hr hl=> ?_
 unfold boxO at hb
 split at hb
 ·rename_i gs hgs
  split at hb
  ·rename_i cs hcs
   split at hb
   ·rename_i tm1 hp1 ht hh
    cases hb
    have hgs':=dL_eq hcs
    subst hgs'
    have hH:St.H ⟨tm,hp,n⟩ b=some (.box (cs.map .d)):=hgs
    obtain ⟨r,q,arr,T,e,h1,h2,h3,h4,h5⟩:=hr.rel.blk b _ hH
    have hsz:arr.size=cs.length:=by simpa using h2
    have hcell:∀j (hj:j<arr.size),w.cell? ⟨r,j,none⟩=some arr[j]:=fun j hj=>by
     simp[World.cell?,h1,hj]
    let F':Fz:=fun b' o=>F b' o∨(b'=r∧o<cs.length)
    have hk:Keep F w F' w:=⟨fun _ _ h=> .inl h,fun _ _ _=>rfl,fun _ _ _=>rfl⟩
    have hep:∀f,VR ν F' w (.ep (cs.drop f)) (.pointer (some ⟨r,f,none⟩)):=fun f=>by
     refine .ep _ r f (fun j=>arr.getD (f+j) undef) (fun j x hx=> ?_) (fun j x hx=> ?_) (fun j x hx=> ?_)
     ·rw[List.getElem?_drop]at hx
      have hlt:f+j<arr.size:=by rw[hsz];exact (List.getElem?_eq_some_iff.1 hx).1
      rw[hcell _ hlt];simp[Array.getD,hlt]
     ·rw[List.getElem?_drop]at hx
      exact .inr ⟨rfl,(List.getElem?_eq_some_iff.1 hx).1⟩
     ·rw[List.getElem?_drop]at hx
      have hlt:f+j<arr.size:=by rw[hsz];exact (List.getElem?_eq_some_iff.1 hx).1
      have:=h4 (f+j) (.d x) arr[f+j] (by rw[List.getElem?_map,hx];rfl) (by simp[hlt])
      have e2:arr.getD (f+j) undef=arr[f+j]:=by simp[Array.getD,hlt]
      rw[e2]
      cases this with
      |d hd=>exact hd.keep hk
    have hlk:∀i,look hp' noHp i=if i=b then none else look hp noHp i:=fun i=>by
     rw[nfH_eq hh]
     show (bif Nat.beq i b then none else look hp noHp i)=_
     cases hb:Nat.beq i b with
     |true=>rw[if_pos (Nat.eq_of_beq_eq_true hb)];rfl
     |false=>rw[if_neg (fun e=>by rw[e,Nat.beq_refl]at hb;cases hb)];rfl
    have hold:∀i b',look hp' noHp i=some b'→i≠b∧look hp noHp i=some b':=fun i b' hi=>by
     rw[hlk]at hi;split at hi
     ·cases hi
     ·rename_i hne;exact ⟨hne,hi⟩
    have hsome:∀i,(look hp' noHp i).isSome=true→i≠b∧(look hp noHp i).isSome=true:=fun i hi=>by
     obtain ⟨b',hb'⟩:=Option.isSome_iff_exists.1 hi
     obtain ⟨x1,x2⟩:=hold i b' hb'
     exact ⟨x1,by rw[x2];rfl⟩
    refine GPost.from h.gw (ν1:=ν) (F1:=F') ⟨hr.pin,fun t=>epT_get e hk hep ht (hr.vals t),⟨fun i j r1 k1 k2 hi hj ei ej=>hr.rel.inj i j r1 k1 k2 (hsome i hi).2 (hsome j hj).2 ei ej,fun i b' hi=> ?_,fun b' o ho=> ?_,hr.rel.glob.keep hk⟩,hr.defers,hr.free,hr.size,fun i hi=> ?_⟩ hl
     ⟨hk,rfl,rfl,rfl,Nat.le_refl _,fun _ _ _=>rfl,fun r1 ⟨i,k1,hi,ei⟩=> .inl ⟨i,k1,(hsome i hi).2,ei⟩,fun b' o ho=> ?_⟩ (Pin.refl _ _ _ _) (fun _ _ _ h=>h)
    ·obtain ⟨x1,x2⟩:=hold i b' hi
     refine (hr.rel.blk i b' x2).keep hk (More.refl _) (fun _ _ _=>rfl) (fun r1 k1 ei o=>⟨fun ho=> ?_,fun ho=> .inl ho⟩)
     rcases ho with ho|⟨rfl,ho⟩
     ·exact ho
     ·exact absurd (hr.rel.inj i b r1 k1 q (by show (look hp noHp i).isSome=true;rw[x2];rfl) (by show (look hp noHp b).isSome=true;rw[hgs];rfl) ei e) x1
    ·rcases ho with ho|⟨rfl,ho⟩
     ·exact hr.rel.old b' o ho
     ·rw[hcell o (by rw[hsz];exact ho)];rfl
    ·show look hp' noHp i=none
     rw[hlk];split
     ·rfl
     ·exact hr.fresh i hi
    ·rcases ho with ho|⟨rfl,ho⟩
     ·exact .inl ho
     ·exact .inr (.inl ⟨b,q,by show (look hp noHp b).isSome=true;rw[hgs];rfl,e⟩)
   ·cases hb
  ·cases hb
 ·cases hb
end Go.Gh
namespace Go.Gh
open Go Go.RowKit
set_option linter.unusedVariables false
def allF (w:World):Fz:=fun b o=>(w.cell? ⟨b,o,none⟩).isSome=true
theorem GC.ends [Laid] {P:Program} {f:FuncId} {args:List G} {u:Value} (h:GC P f args (.d (.sc u))) {W:World} (hg:Glob (allF W) W:=by exact fun _ h=>(by cases h)) {vs:Array Value} (hv:VRs (fun _=>none) (allF W) W args vs):Calls P f vs W fun e W'=>e= .returned u∧Below W.heap.size W W':=
 (h.2 (fun _=>none) (allF W) W noHp vs ⟨fun _ _ _ _ _ h=>(by cases h),fun _ _ h=>(by cases h),fun _ _ h=>h,hg⟩ hv).mono fun e W' ⟨F',v,h1,h2,h3,h4⟩=>by
   have:=h2.sc_inv
   subst this
   exact ⟨h1,h4.os,h4.tape,h4.output,h4.size,fun r hr=>h4.frame r hr fun ⟨i,k,hi,_⟩=>(by cases hi)⟩
theorem VRs.nil {ν:Nu} {F:Fz} {w:World} :VRs ν F w [] #[]:=⟨rfl,fun j g u h=>by simp at h⟩
theorem VRs.of {ν:Nu} {F:Fz} {w:World} :∀ {gs:List G} {us:List Value},us.length=gs.length→(∀(j:Nat) g u,gs[j]? =some g→us[j]? =some u→VR ν F w g u)→VRs ν F w gs us.toArray:=fun h1 h2=>⟨by simpa using h1,fun j g u a b=>h2 j g u a (by simpa using b)⟩
theorem VRs.cons {ν:Nu} {F:Fz} {w:World} {g:G} {u:Value} {gs:List G} {us:List Value} (h:VR ν F w g u) (k:VRs ν F w gs us.toArray):VRs ν F w (g::gs) (u::us).toArray:=
 .of (by have:=k.1;simpa using this) fun j g' u' a b=>by
  cases j with
  |zero=>simp at a b;subst a;subst b;exact h
  |succ j=>exact k.2 j g' u' (by simpa using a) (by simpa using b)
theorem dr_row {α:Type} {df:α} {cs:α→List D} {f:α→List Value} {es:Nat} {W:World} {A:Option Addr} {c:Nat} {xs:List α} (hcs:∀x,cs x=(f x).map .sc) (hlen:∀x,(f x).length=es) (hone:∀x u,u∈f x→u.oneCell'=true) (hc:xs.length≤c)
 (h:xs≠ []→∃b off,A=some ⟨b,off,none⟩∧∀i x,xs[i]? =some x→∀j u,(f x)[j]? =some u→W.cell? ⟨b,off+i*es+j,none⟩=some u):DR (allF W) W (.row df cs xs) (.slice A xs.length c):=by
 by_cases hx:xs= []
 ·subst hx
  exact .row df cs [] A c 0 0 es (fun _ _=>undef) (fun h=>absurd rfl h) (Nat.zero_le _) (fun e he=>(by cases he)) (fun i e j x a=>(by simp at a)) (fun i e j x a=>(by simp at a)) (fun i e j x a=>(by simp at a))
 ·obtain ⟨b,off,hA,hcell⟩:=h hx
  have key:∀(i:Nat) e (j:Nat) x,xs[i]? =some e→(cs e)[j]? =some x→∃u,(f e)[j]? =some u∧x= .sc u:=fun i e j x a b=>by
   rw[hcs,List.getElem?_map]at b
   cases hu:(f e)[j]? with
   |none=>rw[hu]at b;cases b
   |some u=>rw[hu]at b;cases b;exact ⟨u,rfl,rfl⟩
  refine .row df cs xs A c b off es (fun i j=>((xs[i]?.bind fun e=>(f e)[j]?)).getD undef) (fun _=>hA) hc (fun e he=>by rw[hcs,List.length_map,hlen]) (fun i e j x a b=> ?_) (fun i e j x a b=> ?_) (fun i e j x a b=> ?_)
  ·obtain ⟨u,h1,h2⟩:=key i e j x a b
   rw[hcell i e a j u h1];simp[a,h1]
  ·obtain ⟨u,h1,h2⟩:=key i e j x a b
   show (W.cell? _).isSome=true
   rw[hcell i e a j u h1];rfl
  ·obtain ⟨u,h1,h2⟩:=key i e j x a b
   subst h2
   simp only[a,Option.bind_some,h1,Option.getD_some]
   exact .sc u (hone e u (List.mem_of_getElem? h1))
def tabD (k:IntKind):List Int→List D
 | []=>[]
 |z::l=> .sc (.int k z)::tabD k l
theorem tabD_map (k:IntKind) (zs:List Int):tabD k zs=zs.map fun z=>D.sc (.int k z):=by
 induction zs with
 |nil=>rfl
 |cons z l ih=>simp[tabD,ih]
theorem tabIs_of_glob [Laid] {P:Program} {F:Fz} {w:World} {name:String} {g:Nat} {k:IntKind} {zs:List Int} (hg:Glob F w) (hq:(g,tabD k zs)∈Laid.gl) (hn:P.globalNamed name=some g):Lib.TabIs P w name k zs:=by
 obtain ⟨h1,h2,_⟩:=hg _ hq
 obtain ⟨b,off,val,e,hw,_,hd⟩:=h1.ep_inv
 injection e with e;injection e with e;injection e with e1 e2
 dsimp only at e1 e2 h2
 subst e1 e2
 unfold szAt at h2
 unfold Lib.TabIs World.var?
 rw[hn]
 simp only[Option.bind_some]
 split at h2
 ·rename_i arr T fr hh
  rw[hh]
  have hl:arr.size=zs.length:=by rw[tabD_map]at h2;simpa using h2
  refine congrArg some (Array.ext_getElem? fun i=> ?_)
  by_cases hi:i<zs.length
  ·have hx:(tabD k zs)[i]? =some (.sc (.int k zs[i])):=by rw[tabD_map];simp[List.getElem?_eq_getElem hi]
   have c1:=hw i _ hx
   rw[Nat.zero_add,cell_at hh]at c1
   have c2:=hd i _ hx
   generalize val i=u at c1 c2
   cases c2
   rw[c1]
   simp[List.getElem?_eq_getElem hi]
  ·rw[Array.getElem?_eq_none (by omega),Array.getElem?_eq_none (by simp;omega)]
 ·cases h2
theorem glob_of_tabIs {P:Program} {w:World} {name:String} {g:Nat} {k:IntKind} {zs:List Int} (h:Lib.TabIs P w name k zs) (hn:P.globalNamed name=some g) (h0:zs≠ []):
 VR (fun _=>none) (allF w) w (.ep (tabD k zs)) (.pointer (some ⟨g,0,none⟩))∧szAt w g=some (tabD k zs).length∧allF w g 0:=by
 unfold Lib.TabIs World.var? at h
 rw[hn]at h
 simp only[Option.bind_some]at h
 cases hh:w.heap[g]? with
 |none=>rw[hh]at h;cases h
 |some o=>
  rw[hh]at h
  cases o with
  |cells cs T fr=>
   simp only[Option.some.injEq]at h
   have hc:∀i,w.cell? ⟨g,i,none⟩=(zs.map fun z=>Value.int k z)[i]? :=fun i=>by rw[cell_at hh,h];simp
   refine ⟨.ep _ g 0 (fun i=>((zs.map fun z=>Value.int k z)[i]?).getD undef) (fun j x hj=> ?_) (fun j x hj=> ?_) (fun j x hj=> ?_),?_,?_⟩
   ·rw[tabD_map,List.getElem?_map]at hj
    rw[Nat.zero_add,hc,List.getElem?_map]
    cases hz:zs[j]? with
    |none=>rw[hz]at hj;cases hj
    |some z=>rfl
   ·rw[tabD_map,List.getElem?_map]at hj
    show (w.cell? _).isSome=true
    rw[Nat.zero_add,hc,List.getElem?_map]
    cases hz:zs[j]? with
    |none=>rw[hz]at hj;cases hj
    |some z=>rfl
   ·rw[tabD_map,List.getElem?_map]at hj
    rw[List.getElem?_map]
    cases hz:zs[j]? with
    |none=>rw[hz]at hj;cases hj
    |some z=>rw[hz]at hj;cases hj;exact .sc _ rfl
   ·unfold szAt;rw[hh,tabD_map];simp[h]
   ·show (w.cell? _).isSome=true
    rw[hc]
    obtain ⟨z,l,rfl⟩:=List.exists_cons_of_ne_nil h0
    rfl
  |_=>cases h
end Go.Gh
namespace Go.Gh
open Go Go.RowKit
set_option linter.unusedVariables false
def numS:Nat→List Blk→List (Nat×Option Blk)
 |_,[]=>[]
 |i,b::l=>(i,some b)::numS (i+1) l
def numO:Nat→List (Option Blk)→List (Nat×Option Blk)
 |_,[]=>[]
 |i,b::l=>(i,b)::numO (i+1) l
theorem look_numO:∀(l:List (Option Blk)) (k i:Nat),look (numO k l) noHp i=if k≤i then (l[i-k]?).join else none:=by
 intro l
 induction l with
 |nil=>intro k i;show none=_;simp
 |cons b l ih=>
  intro k i
  show (bif Nat.beq i k then b else look (numO (k+1) l) noHp i)=_
  cases e:Nat.beq i k with
  |true=>
   have:=Nat.eq_of_beq_eq_true e
   subst this
   simp
  |false=>
   have hne:i≠k:=fun h=>by rw[h,Nat.beq_refl]at e;cases e
   simp only[cond_false,ih]
   by_cases h:k≤i
   ·rw[if_pos h,if_pos (by omega)]
    obtain ⟨m,hm⟩:∃m,i-k=m+1:=⟨i-k-1,by omega⟩
    rw[hm,show i-(k+1)=m by omega]
    simp
   ·rw[if_neg h,if_neg (by omega)]
theorem numO_R (l:List (Option Blk)):look (numO 0 l) noHp=hpR l:=funext fun i=>by rw[look_numO,if_pos (Nat.zero_le _)];rfl
theorem numS_O:∀(l:List Blk) (k:Nat),numS k l=numO k (l.map some):=by
 intro l
 induction l with
 |nil=>intro k;rfl
 |cons b l ih=>intro k;simp[numS,numO,ih]
theorem numS_F (l:List Blk):look (numS 0 l) noHp=hpF l:=by
 rw[numS_O,numO_R]
 funext i
 show ((l.map some)[i]?).join=l[i]?
 rw[List.getElem?_map]
 cases l[i]? <;>rfl
def RetM [Laid] (P:Program) (fn:Func) (n:Nat) (σ:St) (g:G) (hs':List (Option Blk)):Prop:=
 ∀(ν:Nu) (F:Fz) (a:Act) (w:World) (nt:Nat),RS σ ν F a w nt n→∃(ν':Nu) (F':Fz) (v:Value),(results fn a.tmps).run P w= .ok v w∧VR ν' F' w g v∧Rel ν' F' w (hpR hs')∧(∀i,i<n→ν' i=ν i)∧(∀i,hs'.length≤i→ν' i=none)∧Evo ν F w σ.H ν' F' w (hpR hs')
theorem gm_of_gw [Laid] {P:Program} {f:FuncId} {fn:Func} {c:Code} {args:List G} {hs:List Blk} {g:G} {hs':List (Option Blk)} (hf:P.funcs[f]? =some fn) (hb:fn.body=some c) (hname:(fn.name== "runtime.NumGoroutine")=false) (hlen:Nat.ble args.length fn.ntmps=true)
 (h:GW P fn.ntmps hs.length c ⟨argT 0 args,numS 0 hs,hs.length⟩ (fun e σ=>Ends e∧RetM P fn hs.length σ g hs')):GM P f args hs g hs':=by
 refine ⟨⟨fn,c,hf,hb,hname⟩,fun ν F w vs hr hν hv=> ?_⟩
 have hle:=Nat.le_of_ble_eq_true hlen
 have hH:St.H ⟨argT 0 args,numS 0 hs,hs.length⟩=hpF hs:=numS_F hs
 have hrs:RS ⟨argT 0 args,numS 0 hs,hs.length⟩ ν F {tmps:=vs++Array.replicate (fn.ntmps-vs.size) undef,defers:=[]} w fn.ntmps hs.length:=by
  refine ⟨Nat.le_refl _,fun t=> ?_,hH▸hr,.nil _,hν,by simp[hv.1];omega,fun i hi=> ?_⟩
  ·show VR ν F w (getG (argT 0 args) t) _
   rw[argT_get,if_pos (Nat.zero_le _),Nat.sub_zero]
   cases ht:args[t]? with
   |none=>exact .junk _
   |some g'=>
    have hlt:t<vs.size:=by rw[hv.1];exact (List.getElem?_eq_some_iff.1 ht).1
    have e1:(vs++Array.replicate (fn.ntmps-vs.size) undef).getD t undef=vs[t]:=by
     simp[Array.getD,hlt]
     intro h;omega
    rw[e1]
    exact hv.2 t g' _ ht (by simp[hlt])
  ·rw[hH]
   exact List.getElem?_eq_none hi
 refine (callsIn_wide (n:=0)).1 (callsIn_of_wp_marks hf hb trivial ?_)
 refine wpIn_mono (h none ν F _ w hrs (Lives.none w)) fun e a0 w0 ⟨σ',ν',F',⟨he,hret⟩,hr0,hev0,hpin⟩=> ?_
 suffices hh:LeavesInM (rnd none) 0 P fn a0.tmps (fun e w'=>∃(ν':Nu) (F':Fz) (v:Value),e= .returned v∧VR ν' F' w' g v∧Rel ν' F' w' (hpR hs')∧(∀i,i<hs.length→ν' i=ν i)∧(∀i,hs'.length≤i→ν' i=none)∧Evo ν F w (hpF hs) ν' F' w' (hpR hs')) a0.defers .returning w0 by
  rcases he with rfl|rfl<;>exact hh
 refine shut_end hr0 hev0 hpin fun a' w' ea hr' hev=> ?_
 obtain ⟨ν'',F'',v,x1,x2,x3,x4,x5,x6⟩:=hret ν' F' a' w' _ hr'
 exact ⟨v,x1,ν'',F'',v,rfl,x2,x3,fun i hi=>(x4 i hi).trans (hpin i hi),x5,by have:=hev.trans x6;rw[hH]at this;exact this⟩
theorem resL_own [Laid] {P:Program} {T:Tab} (hT:TabOK P T) {σ:St} {ν:Nu} {F:Fz} {a:Act} {w:World} {nt p:Nat} (hr:RS σ ν F a w nt p):∀(rs:List ResultVar) (gs:List G),resL T σ rs=some gs→
 ∃vs:List Value,(rs.mapM (resSem a.tmps)).run P w= .ok vs w∧vs.length=gs.length∧∀(j:Nat) g u,gs[j]? =some g→vs[j]? =some u→VR ν F w g u:=by
 intro rs
 induction rs with
 |nil=>intro gs h;simp only[resL,Option.some.injEq]at h;subst h;exact ⟨[],rfl,rfl,fun j g u h=>(by simp at h)⟩
 |cons r rs ih=>
  intro gs h
  simp only[resL]at h
  split at h
  ·rename_i g gs' h1 h2
   cases h
   obtain ⟨v,r1,r2⟩:=resOne_sound hT hr h1
   obtain ⟨vs,s1,s2,s3⟩:=ih gs' h2
   refine ⟨v::vs,?_,by simp[s2],fun j g' u hg hu=> ?_⟩
   ·simp only[List.mapM_cons,Sem.run_bind]
    rw[r1]
    simp only[Result.andThen_ok,s1,Sem.run_pure]
   ·match j with
    |0=>simp at hg hu;subst hg;subst hu;exact r2
    |j+1=>exact s3 j g' u (by simpa using hg) (by simpa using hu)
  ·cases h
theorem retM_ok [Laid] {P:Program} {T:Tab} (hT:TabOK P T) {fn:Func} {p:Nat} {tm:List (Nat×G)} {hp:List (Nat×Option Blk)} {k:Nat} {gs gs':List G} {hs':List (Option Blk)} {ps:List Prop} (h:resL T ⟨tm,hp,k⟩ fn.results.toList=some gs) (hl:gs.length=gs'.length)
 (hw:weakA p ⟨argT 0 gs,hp,k⟩ ⟨argT 0 gs',numO 0 hs',hs'.length⟩=some ps) (hps:AllP ps):RetM P fn p ⟨tm,hp,k⟩ (tupG gs') hs':=by
 intro ν F a w nt hr
 obtain ⟨vs,r1,r2,r3⟩:=resL_own hT hr fn.results.toList gs h
 have hm:(fn.results.mapM (resSem a.tmps)).run P w= .ok vs.toArray w:=by
  rw[Array.mapM_eq_mapM_toList,Sem.run_map,r1];rfl
 have r0:RS ⟨argT 0 gs,hp,k⟩ ν F {tmps:=vs.toArray,defers:=[]} w vs.length p:=by
  refine ⟨hr.pin,fun t=> ?_,hr.rel,.nil _,hr.free,by simp,hr.fresh⟩
  show VR ν F w (getG (argT 0 gs) t) _
  rw[argT_get,if_pos (Nat.zero_le _),Nat.sub_zero]
  cases ht:gs[t]? with
  |none=>exact .junk _
  |some g'=>
   have hlt:t<vs.length:=by rw[r2];exact (List.getElem?_eq_some_iff.1 ht).1
   have e1:vs.toArray.getD t undef=vs[t]:=by simp[Array.getD,hlt]
   rw[e1]
   exact r3 t g' _ ht (List.getElem?_eq_getElem hlt)
 obtain ⟨ρ,hρ⟩:=weakA_sound hw
 obtain ⟨ν2,r4,e4,p4⟩:=(weakO_sound hρ hps).rs r0
 have hH:St.H ⟨argT 0 gs',numO 0 hs',hs'.length⟩=hpR hs':=numO_R hs'
 have hval:∀(j:Nat) g u,gs'[j]? =some g→vs[j]? =some u→VR ν2 F w g u:=fun j g u hg hu=>by
  have:=r4.vals j
  have e2:St.get ⟨argT 0 gs',numO 0 hs',hs'.length⟩ j=g:=by
   show getG (argT 0 gs') j=g
   rw[argT_get,if_pos (Nat.zero_le _),Nat.sub_zero,hg];rfl
  have hlt:=(List.getElem?_eq_some_iff.1 hu).1
  have e1:vs.toArray.getD j undef=u:=by
   have:=(List.getElem?_eq_some_iff.1 hu).2
   simp[Array.getD,hlt,this]
  rw[e2]at this
  have this':VR ν2 F w g (vs.toArray.getD j undef):=this
  rw[e1]at this'
  exact this'
 refine ⟨ν2,F,if h:vs.toArray.size=1 then vs.toArray[0]else .tuple vs.toArray,?_,?_,hH▸r4.rel,p4,fun i hi=>r4.free i hi,hH▸e4⟩
 ·rw[results_eq]
  simp only[Sem.run_bind,hm]
  rfl
 ·match gs',hl,hval with
  | [g],hl,hval=>
    have hl1:vs.toArray.size=1:=by have:gs.length=1:=hl;simpa [r2]using this
    rw[dif_pos hl1]
    exact hval 0 g _ rfl (by rw[List.getElem?_eq_getElem (show 0<vs.length by simp at hl1;omega)];simp)
  | [],hl,hval=>
    have hl1:¬vs.toArray.size=1:=by have:gs.length=0:=hl;simp[r2,this]
    rw[dif_neg hl1]
    exact .tup _ _ (by have:gs.length=0:=hl;simp[r2,this]) (fun j g u h=>(by simp at h))
  |g1::g2::gs'',hl,hval=>
   have hl2:gs.length=gs''.length+2:=hl
   have hl1:¬vs.toArray.size=1:=by simp[r2];omega
   rw[dif_neg hl1]
   refine .tup _ _ (by simp[r2];omega) (fun j g u hg hu=>hval j g u hg (by simpa using hu))
section
variable {P:Program} {nt p:Nat} {R:Exit→St→Prop} {c c':Code} {K K':List Kont} {σ:St}
theorem gk_retM [Laid] {T:Tab} (env:Env P T) {fn:Func} {ps ps':List Prop} {gs:List G} {hs':List (Option Blk)} {tm:List (Nat×G)} {h0:List (Nat×Option Blk)} {k:Nat} (gs':List G) {g:G} (hg:tupG gs'=g:=by rfl) (h:resL T ⟨tm,h0,k⟩ fn.results.toList=some gs:=by rfl) (hl:gs.length=gs'.length:=by rfl) (hw:weakA p ⟨argT 0 gs,h0,k⟩ ⟨argT 0 gs',numO 0 hs',hs'.length⟩=some ps:=by rfl) (hf:nfP ps=some ps':=by rfl) (hp:AllP ps':=by first|trivial|simp[AllP]):GK P nt p (fun e σ=>Ends e∧RetM P fn p σ g hs') .ret K ⟨tm,h0,k⟩:=by
 subst hg
 exact kQ_ret K ⟨.inr rfl,retM_ok env.ty h hl hw (nfP_eq hf▸hp)⟩
theorem gk_endM [Laid] {T:Tab} (env:Env P T) {fn:Func} {ps ps':List Prop} {gs:List G} {hs':List (Option Blk)} {tm:List (Nat×G)} {h0:List (Nat×Option Blk)} {k:Nat} (gs':List G) {g:G} (hg:tupG gs'=g:=by rfl) (h:resL T ⟨tm,h0,k⟩ fn.results.toList=some gs:=by rfl) (hl:gs.length=gs'.length:=by rfl) (hw:weakA p ⟨argT 0 gs,h0,k⟩ ⟨argT 0 gs',numO 0 hs',hs'.length⟩=some ps:=by rfl) (hf:nfP ps=some ps':=by rfl) (hp:AllP ps':=by first|trivial|simp[AllP]):GK P nt p (fun e σ=>Ends e∧RetM P fn p σ g hs') .skip [] ⟨tm,h0,k⟩:=by
 subst hg
 exact ⟨.inl rfl,retM_ok env.ty h hl hw (nfP_eq hf▸hp)⟩
theorem gm_of_gk [Laid] {f:FuncId} {fn:Func} {c:Code} {args:List G} {hs:List Blk} {g:G} {hs':List (Option Blk)} {h0:List (Nat×Option Blk)} {n:Nat} (hf:P.funcs[f]? =some fn)
 (h:GK P fn.ntmps n (fun e σ=>Ends e∧RetM P fn n σ g hs') c' K' ⟨argT 0 args,h0,n⟩) (hn0:hs.length=n:=by rfl) (h00:numS 0 hs=h0:=by rfl) (hb:fn.body=some c:=by rfl) (hname:(fn.name== "runtime.NumGoroutine")=false:=by rfl) (hlen:Nat.ble args.length fn.ntmps=true:=by rfl) (hn:nrm 1000 c []=some (c',K'):=by rfl):GM P f args hs g hs':=by
 subst hn0 h00
 exact gm_of_gw hf hb hname hlen (nrm_sound hn h:GK P fn.ntmps hs.length _ c [] _).gw
end
def row2 (b es len:Nat) (x:D):G→Option (List Prop×G)
 | .agg cs=>match rowL1 b es len x cs with
   |some (p,cs')=>some (p,.agg cs')
   |none=>none
 | .tup cs=>match rowL1 b es len x cs with
   |some (p,cs')=>some (p,.tup cs')
   |none=>none
 |g=>row1 b es len x g
def rowT (b es len:Nat) (x:D):List (Nat×G)→Option (List Prop×List (Nat×G))
 | []=>some ([],[])
 |(t,g)::l=>match row2 b es len x g,rowT b es len x l with
  |some (p,g'),some (q,l')=>some (catP p q,(t,g')::l')
  |_,_=>none
def rowH (b es len:Nat) (x:D):List (Nat×Option Blk)→Option (List Prop×List (Nat×Option Blk))
 | []=>some ([],[])
 |(i,ob)::l=>match rowH b es len x l with
  |some (q,l')=>match Nat.beq i b,ob with
   |true,_=>some (q,(i,none)::l')
   |false,some (.box cs)=>match rowL1 b es len x cs with
    |some (p,cs')=>some (catP p q,(i,some (.box cs'))::l')
    |none=>none
   |false,ob=>some (q,(i,ob)::l')
  |none=>none
def rowO (b:Nat) (tm:List (Nat×G)) (hp:List (Nat×Option Blk)):Option (List Prop×List (Nat×G)×List (Nat×Option Blk)):=
 match look hp noHp b with
 |some (.row ty es df cs xs fz)=>match rowT b es xs.length (.row df cs xs) tm,rowH b es xs.length (.row df cs xs) hp with
  |some (p,tm'),some (q,hp')=>match nfH [] hp' with
   |some hp''=>some (catP p q,tm',hp'')
   |none=>none
  |_,_=>none
 |_=>none
section
variable {ν:Nu} {F F':Fz} {w:World} {b es len:Nat} {x:D}
theorem row2_sound (hk:Keep F w F' w) (hd:∀v,VR ν F w (.sl b es 0 len) v→DR F' w x v) {g g':G} {p:List Prop} {v:Value} (h:row2 b es len x g=some (p,g')) (hp:AllP p) (hv:VR ν F w g v):VR ν F' w g' v:=by
 unfold row2 at h
 split at h
 ·rename_i cs
  split at h
  ·rename_i p1 cs' h1
   cases h
   obtain ⟨a1,a2⟩:=rowL1_sound hk hd h1 hp
   cases hv with
   |agg _ us e1 e2 k=>
    refine .agg _ _ (by rw[e1,a1]) e2 fun j g u hg hu=> ?_
    have hlt:j<cs.length:=by rw[←a1];exact (List.getElem?_eq_some_iff.1 hg).1
    exact a2 j cs[j] g u (List.getElem?_eq_getElem hlt) hg (k j _ u (List.getElem?_eq_getElem hlt) hu)
  ·cases h
 ·rename_i cs
  split at h
  ·rename_i p1 cs' h1
   cases h
   obtain ⟨a1,a2⟩:=rowL1_sound hk hd h1 hp
   cases hv with
   |tup _ us e1 k=>
    refine .tup _ _ (by rw[e1,a1]) fun j g u hg hu=> ?_
    have hlt:j<cs.length:=by rw[←a1];exact (List.getElem?_eq_some_iff.1 hg).1
    exact a2 j cs[j] g u (List.getElem?_eq_getElem hlt) hg (k j _ u (List.getElem?_eq_getElem hlt) hu)
  ·cases h
 ·exact row1_sound hk hd h hp hv
theorem rowT_get (hk:Keep F w F' w) (hd:∀v,VR ν F w (.sl b es 0 len) v→DR F' w x v) {t:Nat} {v:Value} :∀ {l l':List (Nat×G)} {p:List Prop},rowT b es len x l=some (p,l')→AllP p→VR ν F w (getG l t) v→VR ν F' w (getG l' t) v:=by
 intro l
 induction l with
 |nil=>intro l' p h _ _;cases h;exact .junk _
 |cons y l ih=>
  obtain ⟨t',g⟩:=y
  intro l' p h hp hv
  simp only[rowT]at h
  split at h
  ·rename_i p1 g1 p2 l1 h1 h2
   cases h
   obtain ⟨q1,q2⟩:=catP_spec hp
   simp only[getG]at hv⊢
   cases e:Nat.beq t t' with
   |true=>rw[e]at hv;exact row2_sound hk hd h1 q1 hv
   |false=>rw[e]at hv;exact ih h2 q2 hv
  ·cases h
def RowB (b:Nat) (i:Nat) (ob ob':Option Blk) (ν:Nu) (F F':Fz) (w:World):Prop:=
 (i=b∧ob'=none)∨(i≠b∧(ob'.isSome=ob.isSome)∧∀bl bl',ob=some bl→ob'=some bl'→(∀r k,ν i=some (r,k)→∀o,F' r o↔F r o)→BR ν F w (ν i) bl→BR ν F' w (ν i) bl')
theorem rowH_look (hk:Keep F w F' w) (hd:∀v,VR ν F w (.sl b es 0 len) v→DR F' w x v):∀ {l l':List (Nat×Option Blk)} {p:List Prop},rowH b es len x l=some (p,l')→AllP p→∀i,RowB b i (look l noHp i) (look l' noHp i) ν F F' w∨(look l noHp i=none∧look l' noHp i=none):=by
 intro l
 induction l with
 |nil=>intro l' p h _ i;cases h;exact .inr ⟨rfl,rfl⟩
 |cons y l ih=>
  obtain ⟨k,ob⟩:=y
  intro l' p h hp i
  simp only[rowH]at h
  split at h
  ·rename_i q l1 h1
   have keepB:∀(bl:Blk),(∀r k',ν i=some (r,k')→∀o,F' r o↔F r o)→BR ν F w (ν i) bl→BR ν F' w (ν i) bl:=fun bl hF hb=>hb.keep hk (More.refl _) (fun _ _ _=>rfl) hF
   split at h
   ·rename_i hb
    cases h
    have:=Nat.eq_of_beq_eq_true hb;subst this
    by_cases e:i=k
    ·subst e
     rw[look_same',look_same']
     exact .inl (.inl ⟨rfl,rfl⟩)
    ·rw[look_oth' e,look_oth' e]
     exact ih h1 hp i
   ·rename_i cs hb
    split at h
    ·rename_i p1 cs' hc
     cases h
     obtain ⟨q1,q2⟩:=catP_spec hp
     obtain ⟨a1,a2⟩:=rowL1_sound hk hd hc q1
     have hne:k≠b:=fun e=>by rw[e,Nat.beq_refl]at hb;cases hb
     by_cases e:i=k
     ·subst e
      rw[look_same',look_same']
      refine .inl (.inr ⟨hne,rfl,fun bl bl' e1 e2 hF hbr=> ?_⟩)
      cases e1;cases e2
      obtain ⟨r,k,arr,T,e,g1,g2,g3,g4,g5⟩:=hbr
      refine ⟨r,k,arr,T,e,g1,by rw[g2,a1],g3,fun j g u hg hu=> ?_,fun o ho=>g5 o ((hF r k e o).1 ho)⟩
      have hlt:j<cs.length:=by rw[←a1];exact (List.getElem?_eq_some_iff.1 hg).1
      exact a2 j cs[j] g u (List.getElem?_eq_getElem hlt) hg (g4 j _ u (List.getElem?_eq_getElem hlt) hu)
     ·rw[look_oth' e,look_oth' e]
      exact ih h1 q2 i
    ·cases h
   ·rename_i hb _
    cases h
    have hne:k≠b:=fun e=>by rw[e,Nat.beq_refl]at hb;cases hb
    by_cases e:i=k
    ·subst e
     rw[look_same',look_same']
     exact .inl (.inr ⟨hne,rfl,fun bl bl' e1 e2 hF hbr=>by rw[e1]at e2;cases e2;exact keepB _ hF hbr⟩)
    ·rw[look_oth' e,look_oth' e]
     exact ih h1 hp i
  ·cases h
end
section
variable {P:Program} {nt p:Nat} {R:Exit→St→Prop} {c c':Code} {K K':List Kont} {σ:St}
theorem gk_row [Laid] (b:Nat) {tm tm':List (Nat×G)} {hp hp':List (Nat×Option Blk)} {n:Nat} {ps ps':List Prop} (h:GK P nt p R c K ⟨tm',hp',n⟩) (hw:isWork c=true:=by rfl) (ho:rowO b tm hp=some (ps,tm',hp'):=by rfl) (hf:nfP ps=some ps':=by rfl) (hps:AllP ps':=by first|trivial|simp[AllP]):GK P nt p R c K ⟨tm,hp,n⟩:=by
 refine gk_work hw fun ro ν F a w hr hl=> ?_
 have hps:=nfP_eq hf▸hps
 unfold rowO at ho
 split at ho
 ·rename_i α ty es df cs xs fz hb
  split at ho
  ·rename_i p1 tm1 p2 hp1 h1 h2
   split at ho
   ·rename_i hp2 hnf
    cases ho
    obtain ⟨q1,q2⟩:=catP_spec hps
    obtain ⟨F',r1,k1,e1,f1⟩:=hr.rel.freeze (H:=look hp noHp) hb
    have hd:∀v,VR ν F w (.sl b es 0 xs.length) v→DR F' w (.row df cs xs) v:=fun v hv=>row_data (hr.rel.blk b _ hb) k1 f1 hv
    have hlk:=fun i=>rowH_look (ν:=ν) k1 hd h2 q2 i
    have hH:look hp' noHp=look hp1 noHp:=nfH_eq hnf
    have hsub:∀i,(look hp1 noHp i).isSome=true→i≠b∧(look hp noHp i).isSome=true:=fun i hi=>by
     rcases hlk i with (⟨_,h⟩|⟨h,h',_⟩)|⟨_,h⟩
     ·rw[h]at hi;cases hi
     ·exact ⟨h,by rw[←h'];exact hi⟩
     ·rw[h]at hi;cases hi
    have hFF:∀i,i≠b→(look hp noHp i).isSome=true→∀r k,ν i=some (r,k)→∀o,F' r o↔F r o:=fun i hi hs r k e o=>by
     refine ⟨fun ho=> ?_,fun ho=>k1.sub _ _ ho⟩
     obtain ⟨bl,hbl⟩:=Option.isSome_iff_exists.1 hs
     have hbl':look [(b,some (Blk.row ty es df cs xs xs.length))] (look hp noHp) i=some bl:=by rw[look1_other hi];exact hbl
     have b1:=r1.blk i bl hbl'
     have b0:=hr.rel.blk i bl hbl
     rw[e]at b0 b1
     cases bl with
     |box cells=>
      obtain ⟨_,_,_,_,e2,_,_,_,_,g5⟩:=b1
      cases e2;exact absurd ho (g5 o)
     |row ty es df cs xs fz=>
      rcases b1 with ⟨e2,_⟩|⟨_,_,_,e2,_,_,_,_,_,_,_,g7,_⟩
      ·cases e2
      ·rcases b0 with ⟨e3,_⟩|⟨_,_,_,e3,_,_,_,_,_,_,_,g7',_⟩
       ·cases e3
       ·cases e2;cases e3;exact (g7' o).2 ((g7 o).1 ho)
     |mp L=>
      obtain ⟨_,_,_,_,e2,_,_,_,g5⟩:=b1
      cases e2;exact absurd ho (g5 o)
     |tbx T vs=>
      obtain ⟨_,_,e2,_,g5⟩:=b1
      cases e2;exact absurd ho (g5 o)
    refine GPost.from h.gw (ν1:=ν) (F1:=F') ⟨hr.pin,fun t=>rowT_get k1 hd h1 q1 (hr.vals t),?_,hr.defers,hr.free,hr.size,fun i hi=> ?_⟩ hl ?_ (Pin.refl _ _ _ _) (fun _ _ _ h=>h)
    ·show Rel ν F' w (look hp' noHp)
     rw[hH]
     refine ⟨fun i j r ki kj hi hj ei ej=>hr.rel.inj i j r ki kj (hsub i hi).2 (hsub j hj).2 ei ej,fun i bl hi=> ?_,r1.old,r1.glob⟩
     obtain ⟨s1,s2⟩:=hsub i (by rw[hi];rfl)
     rcases hlk i with (⟨_,h⟩|⟨_,h',h''⟩)|⟨h,h'⟩
     ·rw[h]at hi;cases hi
     ·obtain ⟨bl0,hbl0⟩:=Option.isSome_iff_exists.1 s2
      exact h'' bl0 bl hbl0 hi (hFF i s1 s2) (hr.rel.blk i bl0 hbl0)
     ·rw[h']at hi;cases hi
    ·show look hp' noHp i=none
     rw[hH]
     have:=hr.fresh i hi
     cases hx:look hp1 noHp i with
     |none=>rfl
     |some bl=>
      have:=(hsub i (by rw[hx];rfl)).2
      rw[show look hp noHp i=none from hr.fresh i hi]at this
      cases this
    ·show Evo ν F w (look hp noHp) ν F' w (look hp' noHp)
     rw[hH]
     refine ⟨k1,rfl,rfl,rfl,Nat.le_refl _,fun _ _ _=>rfl,fun r ⟨i,k,hi,e⟩=> .inl ⟨i,k,(hsub i hi).2,e⟩,fun b' o ho=> ?_⟩
     rcases e1.fz b' o ho with h|⟨i,k,hi,e⟩|h
     ·exact .inl h
     ·refine .inr (.inl ⟨i,k,?_,e⟩)
      exact hi
     ·exact .inr (.inr h)
   ·cases ho
  ·cases ho
 ·cases ho
end
end Go.Gh
namespace Go.Gh
open Go Go.RowKit
set_option linter.unusedVariables false
theorem gc_of_vrs [Laid] {P:Program} {f:FuncId} {fn:Func} {c:Code} {args:List G} {g:G} (hf:P.funcs[f]? =some fn) (hb:fn.body=some c) (hname:(fn.name== "runtime.NumGoroutine")=false) (ha:G.ltL 0 args=true)
 (h:∀(F:Fz) (w:World) (us:Array Value),Glob F w→(∀b o,F b o→b<w.heap.size)→VRs (fun _=>none) F w args us→Calls P f us w fun e w'=>∃(v:Value) (Fn:Fz),e= .returned v∧Below w.heap.size w w'∧(∀b o,Fn b o→w.heap.size≤b∧(w'.cell? ⟨b,o,none⟩).isSome=true)∧VR (fun _=>none) Fn w' g v):GC P f args g:=by
 refine ⟨⟨fn,c,hf,hb,hname⟩,fun ν F w H us hr hv=> ?_⟩
 simp only[ltL_all,List.all_eq_true]at ha
 refine (h F w us hr.glob (fun b o hbo=>hr.old_lt hbo) ⟨hv.1,fun j g' u a b=>(hv.2 j g' u a b).closed (ha g' (List.mem_of_getElem? a))⟩).mono fun e w' ⟨v,Fn,h1,h2,h3,h4⟩=> ?_
 obtain ⟨r1,r2⟩:=of_below hr h2
 have hk:Keep F w' (fun b o=>F b o∨Fn b o) w':=⟨fun _ _ h=> .inl h,fun _ _ _=>rfl,fun _ _ _=>rfl⟩
 have hkn:Keep Fn w' (fun b o=>F b o∨Fn b o) w':=⟨fun _ _ h=> .inr h,fun _ _ _=>rfl,fun _ _ _=>rfl⟩
 refine ⟨fun b o=>F b o∨Fn b o,v,h1,h4.keep hkn (fun i p hi=>by cases hi),⟨r1.inj,fun i b hi=>(r1.blk i b hi).keep hk (More.refl _) (fun _ _ _=>rfl) (fun r k e o=>⟨fun ho=>ho.elim id fun ho=> ?_,.inl⟩),fun b o ho=>ho.elim (r1.old b o) fun ho=>(h3 b o ho).2,r1.glob.keep hk⟩,
  ⟨r2.keep.trans hk,r2.os,r2.tape,r2.output,r2.size,r2.frame,r2.mine,fun b o ho=>ho.elim .inl fun ho=> .inr (.inr (h3 b o ho).1)⟩⟩
 have h5:=(h3 r o ho).1
 have h6:=hr.mine_lt ⟨i,k,by rw[hi];rfl,e⟩
 omega
theorem vr_row {α:Type} {df:α} {cs:α→List D} {f:α→List Value} {es:Nat} {W:World} {A:Option Addr} {c:Nat} {xs:List α} (B:Nat) (hcs:∀x,cs x=(f x).map .sc) (hlen:∀x,(f x).length=es) (hone:∀x u,u∈f x→u.oneCell'=true) (hc:xs.length≤c)
 (h:xs≠ []→∃b off,A=some ⟨b,off,none⟩∧B≤b∧∀i x,xs[i]? =some x→∀j u,(f x)[j]? =some u→W.cell? ⟨b,off+i*es+j,none⟩=some u):
 ∃Fn:Fz,(∀b o,Fn b o→B≤b∧(W.cell? ⟨b,o,none⟩).isSome=true)∧DR Fn W (.row df cs xs) (.slice A xs.length c):=by
 have h0:xs≠ []→∃b off,A=some ⟨b,off,none⟩∧∀i x,xs[i]? =some x→∀j u,(f x)[j]? =some u→W.cell? ⟨b,off+i*es+j,none⟩=some u:=fun hx=>by
  obtain ⟨b,off,e,_,hh⟩:=h hx
  exact ⟨b,off,e,hh⟩
 have hd:=dr_row (df:=df) hcs hlen hone hc h0
 by_cases hx:xs= []
 ·subst hx
  exact ⟨fun _ _=>False,fun _ _ h=>h.elim,.row df cs [] A c 0 0 es (fun _ _=>undef) (fun h=>absurd rfl h) (Nat.zero_le _) (fun e he=>(by cases he)) (fun i e j x a=>(by simp at a)) (fun i e j x a=>(by simp at a)) (fun i e j x a=>(by simp at a))⟩
 ·obtain ⟨b0,off0,e0,hB,hh⟩:=h hx
  refine ⟨fun b o=>b=b0∧allF W b o,fun b o ⟨h1,h2⟩=>⟨h1▸hB,h2⟩,?_⟩
  cases hd with
  |row _ _ _ _ _ b off es' val hA hc' hl hw hF hdr=>
   have hb:b=b0:=by
    have:=(hA hx).symm.trans e0
    injection this with this
    injection this
   subst hb
   refine .row df cs xs A c b off es' val hA hc' hl hw (fun i e j x a1 a2=>⟨rfl,hF i e j x a1 a2⟩) (fun i e j x a1 a2=> ?_)
   have:=hdr i e j x a1 a2
   rw[hcs,List.getElem?_map]at a2
   cases hu:(f e)[j]? with
   |none=>rw[hu]at a2;cases a2
   |some u=>
    rw[hu]at a2;cases a2
    generalize val i j=z at this
    cases this
    exact .sc _ (hone e u (List.mem_of_getElem? hu))
theorem Ent.nil {α:Type} {df:α} {cs:α→List D} :Ent (.d (.sc (.slice none 0 0))) (.d (.row df cs [])):=fun ν F w v h=>by
 cases h with
 |d h=>cases h with
  |sc _ _=>exact .d (.row df cs [] none 0 0 0 0 (fun _ _=>undef) (fun h=>absurd rfl h) (Nat.zero_le _) (fun e he=>(by cases he)) (fun i e j x a=>(by simp at a)) (fun i e j x a=>(by simp at a)) (fun i e j x a=>(by simp at a)))
theorem Ent.tup {gs gs':List G} (h:EntL gs gs'):Ent (.tup gs) (.tup gs'):=fun ν F w v hv=>by
 obtain ⟨x1,x2⟩:=EntL.vrs (ν:=ν) (F:=F) (w:=w) gs gs' h
 cases hv with
 |tup vs us h1 k=>exact .tup _ us (by rw[h1,x1]) fun j g' u hg hu=>x2 j g' u hg fun g hg=>k j g u hg hu
section
variable {P:Program} {nt p:Nat} {K:List Kont} {σ:St}
theorem gk_retE [Laid] {T:Tab} (env:Env P T) {fn:Func} {ps ps':List Prop} {gs:List G} {g:G} (he:Ent (tupG gs) g) (h:retO T σ fn.results.toList=some (ps,gs):=by rfl) (hf:nfP ps=some ps':=by rfl) (hp:AllP ps':=by first|trivial|simp[AllP]):GK P nt p (fun e σ=>Ends e∧RetOK P fn σ g) .ret K σ:=
 kQ_ret K ⟨.inr rfl,done env h (nfP_eq hf▸hp) he⟩
theorem gk_set [Laid] {R:Exit→St→Prop} {c:Code} (ch:List (Nat×G)) (chH:List (Nat×Option Blk)) {inv:St} {ps ps':List Prop} (h:GK P nt p R c K inv) (hw:isWork c=true:=by rfl) (hi:σ.over ch chH=some inv:=by rfl) (hk:weakA p σ inv=some ps:=by rfl) (hf:nfP ps=some ps':=by rfl)
 (hp:AllP ps':=by simp[AllP]):GK P nt p R c K σ:=
 (weakA_sound hk).elim fun ρ h0=>gk_work hw (gw_cut inv ρ h0 (nfP_eq hf▸hp) h.gw)
end
end Go.Gh
namespace Go.Gh
open Go Go.RowKit
set_option linter.unusedVariables false
def dull:Obj→Bool
 | .loop _=>true
 | .deferred _=>true
 | .stringIter _ _=>true
 | .mapIter _ _ _ _=>true
 |_=>false
def isMap:Obj→Bool
 | .map _ _=>true
 |_=>false
structure Calm (B:Nat) (w w':World) (row:Option Nat):Prop where
 grown:w.grownBy w' row
 low:∀r,row=some r→B≤r∧∃o,w.heap[r]? =some o∧(dull o=true∨isMap o=true)
def Calm.Fits {B:Nat} {w w':World} {row:Option Nat} (_:Calm B w w' row) (ν:Nu) (H:Hp):Prop:=
 (∀i L,H i=some (.mp L)→∃r k,ν i=some (r,k)∧r<B)∨∀r o,row=some r→w.heap[r]? =some o→dull o=true
theorem Rel.calm [Laid] {ν:Nu} {F:Fz} {w w':World} {H:Hp} {B:Nat} {row:Option Nat} (hr:Rel ν F w H) (hc:Calm B w w' row) (hf:hc.Fits ν H):Rel ν F w' H∧Keep F w F w':=by
 have hF:∀b o,F b o→w'.heap[b]? =w.heap[b]? :=fun b o h=>by
  have h1:=hr.old b o h
  refine hc.grown.block b (hr.old_lt h) fun e=> ?_
  obtain ⟨_,x,h2,h3⟩:=hc.low b e.symm
  simp only[World.cell?,h2]at h1
  cases x<;>first|(simp[dull,isMap]at h3;done)|(simp at h1;done)
 have hk:Keep F w F w':=⟨fun _ _ h=>h,fun b o h=>by simp only[World.cell?,hF b o h],fun b o h=>szAt_of (hF b o h)⟩
 have hm:∀i b r k,H i=some b→ν i=some (r,k)→w'.heap[r]? =w.heap[r]? :=fun i b r k hi e=>by
  have hbr:=hr.blk i b hi
  rw[e]at hbr
  refine hc.grown.block r hbr.lt fun e'=> ?_
  obtain ⟨hB,x,h4,h3⟩:=hc.low r e'.symm
  cases b with
  |box cells=>obtain ⟨r,q,arr,T,e1,h5,_⟩:=hbr;cases e1;rw[h4]at h5;cases h5;simp[dull,isMap]at h3
  |row ty es df cs xs fz=>
   rcases hbr with ⟨h5,_⟩|⟨r,q,arr,e1,h5,_⟩
   ·cases h5
   ·cases e1;rw[h4]at h5;cases h5;simp[dull,isMap]at h3
  |mp L=>
   rcases hf with hf|hf
   ·obtain ⟨r',k',e1,h5⟩:=hf i L hi
    rw[e]at e1;cases e1;omega
   ·have h6:=hf r x e'.symm h4
    obtain ⟨r,q,es,c,e1,h5,_⟩:=hbr;cases e1;rw[h4]at h5;cases h5;cases h6
  |tbx T vs=>obtain ⟨r,q,e1,h5,_⟩:=hbr;cases e1;rw[h4]at h5;cases h5;simp[dull,isMap]at h3
 exact ⟨⟨hr.inj,fun i b hi=>(hr.blk i b hi).keep hk (More.refl _) (fun r k e=>hm i b r k hi e) (fun _ _ _ _=>Iff.rfl),fun b o h=>by rw[hk.same b o h];exact hr.old b o h,hr.glob.keep hk⟩,hk⟩
theorem Evo.calm {ν0 ν:Nu} {F0 F:Fz} {w0 w w':World} {H0 H:Hp} {row:Option Nat} (he:Evo ν0 F0 w0 H0 ν F w H) (hk:Keep F w F w') (hc:Calm w0.heap.size w w' row):Evo ν0 F0 w0 H0 ν F w' H:=
 ⟨he.keep.trans hk,hc.grown.os.trans he.os,hc.grown.tape.trans he.tape,hc.grown.output.trans he.output,Nat.le_trans he.size hc.grown.size,fun r hr hm=>(hc.grown.block r (Nat.lt_of_lt_of_le hr he.size) fun e=>by
  have:=(hc.low r e.symm).1;omega).trans (he.frame r hr hm),he.mine,he.fz⟩
theorem Evo.notMine [Laid] {ν ν':Nu} {F F':Fz} {w w':World} {H H':Hp} (he:Evo ν F w H ν' F' w' H') (hr:Rel ν F w H) {l:Nat} {o:Obj} (h:w.heap[l]? =some o) (hd:dull o=true):w'.heap[l]? =some o:=by
 rw[he.frame l (Array.getElem?_eq_some_iff.1 h).1 fun ⟨i,k,hi,e⟩=> ?_]
 ·exact h
 ·obtain ⟨b,hb⟩:=Option.isSome_iff_exists.1 hi
  have hbr:=hr.blk i b hb
  rw[e]at hbr
  cases b with
  |box cells=>obtain ⟨r,q,arr,T,e1,h5,_⟩:=hbr;cases e1;rw[h]at h5;cases h5;cases hd
  |row ty es df cs xs fz=>
   rcases hbr with ⟨h5,_⟩|⟨r,q,arr,e1,h5,_⟩
   ·cases h5
   ·cases e1;rw[h]at h5;cases h5;cases hd
  |mp L=>obtain ⟨r,q,es,c,e1,h5,_⟩:=hbr;cases e1;rw[h]at h5;cases h5;cases hd
  |tbx T vs=>obtain ⟨r,q,e1,h5,_⟩:=hbr;cases e1;rw[h]at h5;cases h5;cases hd
def BL [Laid] (q:Nat) (ν:Nu) (F:Fz) (w:World) (H:Hp) (τ:St) (W:World):Prop:=
 ∃ν1 F1,Rel ν1 F1 W τ.H∧(∀i,τ.next≤i→ν1 i=none)∧(∀i,τ.next≤i→τ.H i=none)∧q≤τ.next∧Evo ν F w H ν1 F1 W τ.H∧(∀i,i<q→ν1 i=ν i)∧∀i L,τ.H i=some (.mp L)→∃r k,ν1 i=some (r,k)∧r<w.heap.size
section
variable {q:Nat} {ν:Nu} {F:Fz} {w:World} {H:Hp} {τ:St} {W:World}
theorem BL.calm [Laid] (h:BL q ν F w H τ W) {W':World} {row:Option Nat} (hc:Calm w.heap.size W W' row):BL q ν F w H τ W':=by
 obtain ⟨ν1,F1,h1,h2,h3,h4,h5,h6⟩:=h
 obtain ⟨a1,a2⟩:=h1.calm hc (.inl h6.2)
 exact ⟨ν1,F1,a1,h2,h3,h4,h5.calm a2 hc,h6⟩
theorem BL.keep [Laid] (h:BL q ν F w H τ W) {W':World} {row:Option Nat} (hc:Calm w.heap.size W W' row):Keep F W F W':=by
 obtain ⟨ν1,F1,h1,h2,h3,h4,h5,h6⟩:=h
 obtain ⟨a1,a2⟩:=h1.calm hc (.inl h6.2)
 exact ⟨fun _ _ h=>h,fun b o hb=>a2.same b o (h5.keep.sub b o hb),fun b o hb=>a2.sz b o (h5.keep.sub b o hb)⟩
end
theorem putObj_calm {B l:Nat} {W:World} {o o':Obj} (hB:B≤l) (h:W.heap[l]? =some o) (hd:dull o=true):Calm B W (W.putObj l o') (some l):=
 ⟨grownBy_putObj' W l o',fun r e=>by cases e;exact ⟨hB,o,h,.inl hd⟩⟩
section
variable {P:Program} {nt p:Nat} {R:Exit→St→Prop} {c c':Code} {K K':List Kont} {σ:St}
end
def setO:List G→Nat→G→Option (List G)
 | [],_,_=>none
 |_::l,0,g=>some (g::l)
 |x::l,n+1,g=>match setO l n g with
  |some r=>some (x::r)
  |none=>none
theorem setO_eq:∀ {l:List G} {j:Nat} {g:G} {r:List G},setO l j g=some r→r=l.set j g:=by
 intro l
 induction l with
 |nil=>intro j g r h;cases h
 |cons x l ih=>
  intro j g r h
  cases j with
  |zero=>cases h;rfl
  |succ j=>
   simp only[setO]at h
   split at h
   ·rename_i r' hr;cases h;rw[ih hr];rfl
   ·cases h
theorem gk_nilB [Laid] {P:Program} {nt p:Nat} {R:Exit→St→Prop} {c:Code} {K:List Kont} (b j ty es:Nat) {α:Type} (df:α) (cs:α→List D) {tm:List (Nat×G)} {hp hp':List (Nat×Option Blk)} {n:Nat} {cells cells':List G} (h:GK P nt p R c K ⟨tm,hp',n+1⟩)
 (hw:isWork c=true:=by rfl) (hb:look hp noHp b=some (.box cells):=by rfl) (hc:cells[j]? =some (.d (.sc (.slice none 0 0))):=by rfl) (hs:setO cells j (.sl n es 0 0)=some cells':=by rfl) (hh:nfH [] ((n,some (.row ty es df cs [] 0))::(b,some (.box cells'))::hp)=some hp':=by rfl):GK P nt p R c K ⟨tm,hp,n⟩:=by
 refine gk_work hw fun ro ν F a w hr hl=> ?_
 have hlk:∀i,look hp' noHp i=if i=n then some (.row ty es df cs [] 0)else if i=b then some (.box cells')else look hp noHp i:=fun i=>by
  rw[nfH_eq hh]
  show (bif Nat.beq i n then _ else (bif Nat.beq i b then _ else _))=_
  cases e1:Nat.beq i n with
  |true=>rw[if_pos (Nat.eq_of_beq_eq_true e1)];rfl
  |false=>
   rw[if_neg (fun e=>by rw[e,Nat.beq_refl]at e1;cases e1)]
   cases e2:Nat.beq i b with
   |true=>rw[if_pos (Nat.eq_of_beq_eq_true e2)];rfl
   |false=>rw[if_neg (fun e=>by rw[e,Nat.beq_refl]at e2;cases e2)];rfl
 obtain ⟨r2,e2⟩:=hr.nil (tm':=tm) (hp':=hp') (ty:=ty) (es:=es) (df:=df) (cs:=cs) (fun t v h=>h)
  (fun i b' hb'=>by
   rw[hlk]at hb'
   split at hb'
   ·rename_i e;cases hb';exact .inr ⟨e,rfl⟩
   ·split at hb'
    ·rename_i e
     cases hb'
     subst e
     refine .inl ⟨by rw[hb];rfl,?_⟩
     obtain ⟨r,k,arr,T,e1,g1,g2,g3,g4,g5⟩:=hr.rel.blk i _ hb
     have:=setO_eq hs
     subst this
     refine ⟨r,k,arr,T,e1,g1,by rw[g2,List.length_set],g3,fun j' g u hg hu=> ?_,g5⟩
     by_cases ej:j=j'
     ·subst ej
      rw[List.getElem?_set_self (List.getElem?_eq_some_iff.1 hc).1]at hg
      cases hg
      exact (g4 j _ u hc hu).nil_row
     ·rw[List.getElem?_set_ne ej]at hg
      exact g4 j' g u hg hu
    ·exact .inl ⟨by rw[hb'];rfl,hr.rel.blk i b' hb'⟩)
  (fun i hi hs=>by
   rw[hlk,if_neg hi]
   split
   ·rename_i e;rw[e,hb]at hs;cases hs
   ·exact Option.isNone_iff_eq_none.1 (by rw[←Option.not_isSome,hs];rfl))
 exact GPost.from h.gw r2 hl e2 (Pin.refl _ _ _ _) (fun _ _ _ h=>h)
theorem Ent.agg {gs gs':List G} (h:EntL gs gs'):Ent (.agg gs) (.agg gs'):=fun ν F w v hv=>by
 obtain ⟨x1,x2⟩:=EntL.vrs (ν:=ν) (F:=F) (w:=w) gs gs' h
 cases hv with
 |agg cells cs h1 hc k=>exact .agg _ cs (by rw[h1,x1]) hc fun j g' u hg hu=>x2 j g' u hg fun g hg=>k j g u hg hu
end Go.Gh
namespace Go.Gh
open Go Go.RowKit
set_option linter.unusedVariables false
theorem Rel.less [Laid] {ν:Nu} {F:Fz} {w:World} {H H':Hp} (h:Rel ν F w H) (hs:∀i bl,H' i=some bl→H i=some bl):Rel ν F w H'∧Evo ν F w H ν F w H':=by
 have hi:∀i,(H' i).isSome=true→(H i).isSome=true:=fun i hi=>by
  obtain ⟨bl,hb⟩:=Option.isSome_iff_exists.1 hi
  rw[hs i bl hb];rfl
 exact ⟨⟨fun i j r k k' a b=>h.inj i j r k k' (hi i a) (hi j b),fun i bl hb=>h.blk i bl (hs i bl hb),h.old,h.glob⟩,
  ⟨Keep.refl _ _,rfl,rfl,rfl,Nat.le_refl _,fun _ _ _=>rfl,fun r ⟨i,k,a,e⟩=> .inl ⟨i,k,hi i a,e⟩,fun _ _ h=> .inl h⟩⟩
section
variable {P:Program} {nt p:Nat} {R:Exit→St→Prop} {c c':Code} {K K':List Kont} {σ:St}
end
end Go.Gh
namespace Go.Gh
open Go Go.RowKit
set_option linter.unusedVariables false
theorem vr_ex {ν:Nu} {F:Fz} {w:World} {u v:Value} {g:G} (h:VR ν F w (.ex u g) v):v=u:=by
 cases h;rfl
end Go.Gh
namespace Go.Gh
open Go Go.RowKit
set_option linter.unusedVariables false
theorem wpX_pure {P:Program} {o:Oper} {a:Act} {w:World} {v:Value} {K:Act→World→Prop} (h1:(execOp a.eval o).run P w= .ok (.value v) w) (hk:K (a.put o.dst v) w):Oper.wpX P o a w K:=by
 refine ⟨noDefer_of h1 fun d e=>(by cases e),?_⟩
 rw[h1]
 exact hk
theorem filt_same {t:Nat} :∀l:List (Nat×G),getG (l.filter fun x=>x.1 !=t) t= .junk:=fun l=>by
 induction l with
 |nil=>rfl
 |cons x l ih=>
  by_cases hx:x.1=t
  ·rw[List.filter_cons_of_neg (by simp[hx])];exact ih
  ·rw[List.filter_cons_of_pos (by simp[hx])]
   obtain ⟨x1,x2⟩:=x
   simp only[getG]
   rw[show Nat.beq t x1=false from by cases h:Nat.beq t x1 with
    |false=>rfl
    |true=>exact absurd (Nat.eq_of_beq_eq_true h).symm hx]
   exact ih
theorem filt_other {a t:Nat} (ha:Nat.beq t a=false):∀l:List (Nat×G),getG (l.filter fun x=>x.1 !=a) t=getG l t:=fun l=>by
 induction l with
 |nil=>rfl
 |cons x l ih=>
  obtain ⟨x1,x2⟩:=x
  by_cases hx:x1=a
  ·rw[List.filter_cons_of_neg (by simp[hx])]
   simp only[getG]
   rw[hx,ha];exact ih
  ·rw[List.filter_cons_of_pos (by simp[hx])]
   simp only[getG,ih]
theorem gw_isnil [Laid] {P:Program} {T:Tab} (hT:TabOK P T) {nt p id s a b:Nat} {o1 o2:Oper} {t t' et:TypeId} {e:TyE} (d1:o1.dst=some a) (g1:o1.guard=none) (h1:o1.op= .move (.tmp s)) (d2:o2.dst=some b) (g2:o2.guard=none)
 (h2:o2.op= .binOp .eql t (.tmp a) (.const (.slice none 0 0)) t') (te:tyAt T t=some e) (hd:e.desc= .slice et) (la:a<nt) (lb:b<nt)
 {tm:List (Nat×G)} {hp:List (Nat×Option Blk)} {n:Nat} {α:Type} {df:α} {cs:α→List D} {xs:List α} (hs:getG tm s= .d (.row df cs xs)) {Q:Exit→St→Prop}
 (hq:∀q:Bool,(q=true→xs= [])→Q .normal ⟨(b,.d (.sc (.bool q)))::tm.filter (fun x=>x.1 !=a),hp,n⟩):GW P nt p (.region id #[o1,o2] false) ⟨tm,hp,n⟩ Q:=by
 intro ro ν F w0 w hr hl
 have hv:VR ν F w (.d (.row df cs xs)) (w0.tmps.getD s undef):=by rw[←hs];exact hr.vals s
 obtain ⟨A,c,bb,off,es,val,hA,hne,hc,_⟩:=hv.row_inv
 have hu:P.underlying t=some (.slice et):=by rw[←hd];exact (hT _ _ te).1
 have r2:=Lib.run_eql_slice_nil (P:=P) w t et A xs.length c 0 0 hu
 have hat:(w0.put o1.dst (.slice A xs.length c)).eval (.tmp a)= .slice A xs.length c:=by
  have hsz:=hr.size
  rw[d1]
  simp[Act.eval,Act.put,hsz,la]
 refine wpIn_region ?_
 show wpOpsIn (rnd ro) 0 P #[o1,o2] _ [0,1] w0 w
 simp only[wpOpsIn]
 have e0:(#[o1,o2]:Array Oper)[0]? =some o1:=rfl
 have e1:(#[o1,o2]:Array Oper)[1]? =some o2:=rfl
 simp only[e0,e1,Region.wanted,g1,g2,if_true]
 refine wpIn_of_wpX (wpX_pure (v:= .slice A xs.length c) ?_ ?_)
 ·simp only[execOp,h1]
  rw[show w0.eval (.tmp s)=w0.tmps.getD s undef from rfl,hA]
  rfl
 ·refine wpIn_of_wpX (wpX_pure (v:= .bool A.isNone) ?_ ?_)
  ·simp only[execOp,h2]
   rw[hat]
   show ((do eqGuard .eql t (.tmp a) (.const (.slice none 0 0)) (.slice A xs.length c) (.slice none 0 0);let v ←binOp .eql t (.slice A xs.length c) (.slice none 0 0);pure (Next.value v):Sem Next)).run P w=_
   have r1:(eqGuard .eql t (.tmp a) (.const (.slice none 0 0)) (.slice A xs.length c) (.slice none 0 0)).run P w= .ok () w:=rfl
   simp only[Sem.run_bind,r1,Result.andThen_ok,r2,Sem.run_pure]
  ·refine ⟨⟨(b,.d (.sc (.bool A.isNone)))::tm.filter (fun x=>x.1 !=a),hp,n⟩,ν,F,hq A.isNone (fun hq=> ?_),⟨hr.pin,fun x=> ?_,hr.rel,?_,hr.free,?_,hr.fresh⟩,Evo.refl _ _ _ _,Pin.of _ ?_ fun _ _=>rfl⟩
   ·cases hx:xs with
    |nil=>rfl
    |cons x l=>rw[hne (by rw[hx];simp)]at hq;cases hq
   ·rw[d1,d2]
    show VR ν F w (getG ((b,_)::_) x) _
    simp only[getG]
    cases hb:Nat.beq x b with
    |true=>
     obtain rfl:=Nat.eq_of_beq_eq_true hb
     simp[Act.put,hr.size,lb]
     exact .d (.sc _ rfl)
    |false=>
     have hxb:b≠x:=fun h=>by rw[h,Nat.beq_refl]at hb;cases hb
     simp only[cond_false]
     cases ha:Nat.beq x a with
     |true=>
      obtain rfl:=Nat.eq_of_beq_eq_true ha
      rw[filt_same]
      exact .junk _
     |false=>
      have hxa:a≠x:=fun h=>by rw[h,Nat.beq_refl]at ha;cases ha
      rw[filt_other ha]
      have:VR ν F w (getG tm x) (w0.tmps.getD x undef):=hr.vals x
      simp[Act.put,Array.getElem?_setIfInBounds_ne hxa,Array.getElem?_setIfInBounds_ne hxb]
      simpa using this
   ·simpa [d1,d2,Act.put]using hr.defers
   ·simpa [d1,d2,Act.put]using hr.size
   ·simp[d1,d2,Act.put]
section
variable {P:Program} {nt p:Nat} {R:Exit→St→Prop} {c':Code} {K K':List Kont}
theorem gk_isnil [Laid] {T:Tab} (env:Env P T) {id s a b:Nat} {o1 o2:Oper} {t t' et:TypeId} {e:TyE} {tm tm':List (Nat×G)} {hp:List (Nat×Option Blk)} {n:Nat} {α:Type} {df:α} {cs:α→List D} {xs:List α}
 (hq:∀q:Bool,(q=true→xs= [])→GK P nt p R c' K' ⟨(b,.d (.sc (.bool q)))::tm',hp,n⟩)
 (d1:o1.dst=some a:=by rfl) (g1:o1.guard=none:=by rfl) (h1:o1.op= .move (.tmp s):=by rfl) (d2:o2.dst=some b:=by rfl) (g2:o2.guard=none:=by rfl)
 (h2:o2.op= .binOp .eql t (.tmp a) (.const (.slice none 0 0)) t':=by rfl) (te:tyAt T t=some e:=by rfl) (hd:e.desc= .slice et:=by rfl) (la:a<nt:=by decide) (lb:b<nt:=by decide) (hs:getG tm s= .d (.row df cs xs):=by rfl) (hf:tm.filter (fun x=>x.1 !=a)=tm':=by rfl) (hn:nrm 1000 .skip K=some (c',K'):=by rfl):
 GK P nt p R (.region id #[o1,o2] false) K ⟨tm,hp,n⟩:=
 gw_isnil env.ty d1 g1 h1 d2 g2 h2 te hd la lb hs fun q h=>by rw[hf];exact (nrm_sound hn (hq q h):GK P nt p R .skip K _)
end
def numX:Nat→List (Option Blk)→List (Nat×Option Blk)
 |_,[]=>[]
 |i,none::l=>numX (i+1) l
 |i,some b::l=>(i,some b)::numX (i+1) l
theorem look_numX:∀(l:List (Option Blk)) (k:Nat),look (numX k l) noHp=look (numO k l) noHp:=by
 intro l
 induction l with
 |nil=>intro k;rfl
 |cons b l ih=>
  intro k
  cases b with
  |none=>
   show look (numX (k+1) l) noHp=look ((k,none)::numO (k+1) l) noHp
   rw[ih]
   funext i
   show _=(bif Nat.beq i k then none else look (numO (k+1) l) noHp i)
   cases e:Nat.beq i k with
   |true=>
    obtain rfl:=Nat.eq_of_beq_eq_true e
    rw[look_numO,if_neg (by omega)];rfl
   |false=>rfl
  |some b=>
   show look ((k,some b)::numX (k+1) l) noHp=look ((k,some b)::numO (k+1) l) noHp
   funext i
   show (bif Nat.beq i k then some b else look (numX (k+1) l) noHp i)=(bif Nat.beq i k then some b else look (numO (k+1) l) noHp i)
   rw[ih]
def seedN:Nat→List (Nat×Nat)
 |0=>[]
 |n+1=>(n,n)::seedN n
def weakX (p:Nat) (σ τ:St):Option (List Prop):=
 match σ,τ with
 |⟨tm,h,n⟩,⟨tm',h',n'⟩=>match nfN (pairH h h' (seedN p++pairT tm tm') (pairT tm tm'))with
  |some l=>weakO p (rhoF l) ⟨tm,h,n⟩ ⟨tm',h',n'⟩
  |none=>none
theorem weakX_sound {p:Nat} {σ τ:St} {ps:List Prop} (h:weakX p σ τ=some ps):∃ρ,weakO p ρ σ τ=some ps:=by
 unfold weakX at h
 split at h
 split at h
 ·exact ⟨_,h⟩
 ·cases h
theorem retX_ok [Laid] {P:Program} {T:Tab} (hT:TabOK P T) {fn:Func} {p:Nat} {tm:List (Nat×G)} {hp:List (Nat×Option Blk)} {k:Nat} {gs gs':List G} {hs':List (Option Blk)} {ps:List Prop} (h:resL T ⟨tm,hp,k⟩ fn.results.toList=some gs) (hl:gs.length=gs'.length)
 (hw:weakX p ⟨argT 0 gs,hp,k⟩ ⟨argT 0 gs',numX 0 hs',hs'.length⟩=some ps) (hps:AllP ps):RetM P fn p ⟨tm,hp,k⟩ (tupG gs') hs':=by
 intro ν F a w nt hr
 obtain ⟨vs,r1,r2,r3⟩:=resL_own hT hr fn.results.toList gs h
 have hm:(fn.results.mapM (resSem a.tmps)).run P w= .ok vs.toArray w:=by
  rw[Array.mapM_eq_mapM_toList,Sem.run_map,r1];rfl
 have r0:RS ⟨argT 0 gs,hp,k⟩ ν F {tmps:=vs.toArray,defers:=[]} w vs.length p:=by
  refine ⟨hr.pin,fun t=> ?_,hr.rel,.nil _,hr.free,by simp,hr.fresh⟩
  show VR ν F w (getG (argT 0 gs) t) _
  rw[argT_get,if_pos (Nat.zero_le _),Nat.sub_zero]
  cases ht:gs[t]? with
  |none=>exact .junk _
  |some g'=>
   have hlt:t<vs.length:=by rw[r2];exact (List.getElem?_eq_some_iff.1 ht).1
   have e1:vs.toArray.getD t undef=vs[t]:=by simp[Array.getD,hlt]
   rw[e1]
   exact r3 t g' _ ht (List.getElem?_eq_getElem hlt)
 obtain ⟨ρ,hρ⟩:=weakX_sound hw
 obtain ⟨ν2,r4,e4,p4⟩:=(weakO_sound hρ hps).rs r0
 have hH:St.H ⟨argT 0 gs',numX 0 hs',hs'.length⟩=hpR hs':=(look_numX hs' 0).trans (numO_R hs')
 have hval:∀(j:Nat) g u,gs'[j]? =some g→vs[j]? =some u→VR ν2 F w g u:=fun j g u hg hu=>by
  have:=r4.vals j
  have e2:St.get ⟨argT 0 gs',numX 0 hs',hs'.length⟩ j=g:=by
   show getG (argT 0 gs') j=g
   rw[argT_get,if_pos (Nat.zero_le _),Nat.sub_zero,hg];rfl
  have hlt:=(List.getElem?_eq_some_iff.1 hu).1
  have e1:vs.toArray.getD j undef=u:=by
   have:=(List.getElem?_eq_some_iff.1 hu).2
   simp[Array.getD,hlt,this]
  rw[e2]at this
  have this':VR ν2 F w g (vs.toArray.getD j undef):=this
  rw[e1]at this'
  exact this'
 refine ⟨ν2,F,if h:vs.toArray.size=1 then vs.toArray[0]else .tuple vs.toArray,?_,?_,hH▸r4.rel,p4,fun i hi=>r4.free i hi,hH▸e4⟩
 ·rw[results_eq]
  simp only[Sem.run_bind,hm]
  rfl
 ·match gs',hl,hval with
  | [g],hl,hval=>
    have hl1:vs.toArray.size=1:=by have:gs.length=1:=hl;simpa [r2]using this
    rw[dif_pos hl1]
    exact hval 0 g _ rfl (by rw[List.getElem?_eq_getElem (show 0<vs.length by simp at hl1;omega)];simp)
  | [],hl,hval=>
    have hl1:¬vs.toArray.size=1:=by have:gs.length=0:=hl;simp[r2,this]
    rw[dif_neg hl1]
    exact .tup _ _ (by have:gs.length=0:=hl;simp[r2,this]) (fun j g u h=>(by simp at h))
  |g1::g2::gs'',hl,hval=>
   have hl2:gs.length=gs''.length+2:=hl
   have hl1:¬vs.toArray.size=1:=by simp[r2];omega
   rw[dif_neg hl1]
   refine .tup _ _ (by simp[r2];omega) (fun j g u hg hu=>hval j g u hg (by simpa using hu))
section
variable {P:Program} {nt p:Nat} {K:List Kont}
theorem gk_retX [Laid] {T:Tab} (env:Env P T) {fn:Func} {ps ps':List Prop} {gs:List G} {hs':List (Option Blk)} {tm:List (Nat×G)} {h0:List (Nat×Option Blk)} {k:Nat} (gs':List G) {g:G} (hg:tupG gs'=g:=by rfl) (h:resL T ⟨tm,h0,k⟩ fn.results.toList=some gs:=by rfl) (hl:gs.length=gs'.length:=by rfl) (hw:weakX p ⟨argT 0 gs,h0,k⟩ ⟨argT 0 gs',numX 0 hs',hs'.length⟩=some ps:=by rfl) (hf:nfP ps=some ps':=by rfl) (hp:AllP ps':=by first|trivial|simp[AllP]):GK P nt p (fun e σ=>Ends e∧RetM P fn p σ g hs') .ret K ⟨tm,h0,k⟩:=by
 subst hg
 exact kQ_ret K ⟨.inr rfl,retX_ok env.ty h hl hw (nfP_eq hf▸hp)⟩
theorem gk_endX [Laid] {T:Tab} (env:Env P T) {fn:Func} {ps ps':List Prop} {gs:List G} {hs':List (Option Blk)} {tm:List (Nat×G)} {h0:List (Nat×Option Blk)} {k:Nat} (gs':List G) {g:G} (hg:tupG gs'=g:=by rfl) (h:resL T ⟨tm,h0,k⟩ fn.results.toList=some gs:=by rfl) (hl:gs.length=gs'.length:=by rfl) (hw:weakX p ⟨argT 0 gs,h0,k⟩ ⟨argT 0 gs',numX 0 hs',hs'.length⟩=some ps:=by rfl) (hf:nfP ps=some ps':=by rfl) (hp:AllP ps':=by first|trivial|simp[AllP]):GK P nt p (fun e σ=>Ends e∧RetM P fn p σ g hs') .skip [] ⟨tm,h0,k⟩:=by
 subst hg
 exact ⟨.inl rfl,retX_ok env.ty h hl hw (nfP_eq hf▸hp)⟩
end
end Go.Gh
