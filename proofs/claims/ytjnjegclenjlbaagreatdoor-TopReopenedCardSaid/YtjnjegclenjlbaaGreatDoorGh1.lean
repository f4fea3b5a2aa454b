/- A logic of calls without memory (1 of 3). -/
import Derived.WalkKit
import Derived.Lib.Hide
import Derived.Deep.Draws
import Derived.OrdersIn
import Derived.RangeFuncLeaves
import Derived.Orders
namespace Go.Gh
open Go Go.RowKit
inductive D:Type 1 where
 |sc (v:Value)
 |row {α:Type} (dflt:α) (cells:α→List D) (xs:List α)
inductive G:Type 1 where
 |d (x:D)
 |ptr (b es i f:Nat)
 |sl (b es i n:Nat)
 |ep (cells:List D)
 |fn (f:Fn) (first captured:List G)
 |agg (cells:List G)
 |tup (vs:List G)
 |iface (t:TypeId) (g:G)
 |mp (b:Nat)
 |opt (c:Bool) (g:G)
 |ex (v:Value) (g:G)
 |junk
inductive Blk:Type 1 where
 |box (cells:List G)
 |row {α:Type} (ty es:Nat) (dflt:α) (cells:α→List D) (xs:List α) (fz:Nat)
 |mp (L:List (Value×Value))
 |tbx (T:Nat) (vs:List Value)
abbrev Fz:=Nat→Nat→Prop
abbrev Nu:=Nat→Option (Nat×Nat)
section
inductive DR (F:Fz) (w:World):D→Value→Prop
 |sc (v:Value) (h:v.oneCell'=true):DR F w (.sc v) v
 |row {α:Type} (dflt:α) (cells:α→List D) (xs:List α) (A:Option Addr) (c b off es:Nat) (val:Nat→Nat→Value)
  (hA:xs≠ []→A=some ⟨b,off,none⟩) (hc:xs.length≤c) (hl:∀e,e∈xs→(cells e).length=es)
  (hw:∀(i:Nat) e (j:Nat) x,xs[i]? =some e→(cells e)[j]? =some x→w.cell? ⟨b,off+i*es+j,none⟩=some (val i j))
  (hF:∀(i:Nat) e (j:Nat) x,xs[i]? =some e→(cells e)[j]? =some x→F b (off+i*es+j))
  (h:∀(i:Nat) e (j:Nat) x,xs[i]? =some e→(cells e)[j]? =some x→DR F w x (val i j)):DR F w (.row dflt cells xs) (.slice A xs.length c)
inductive VR (ν:Nu) (F:Fz) (w:World):G→Value→Prop
 |d {x:D} {v:Value} (h:DR F w x v):VR ν F w (.d x) v
 |ptr (b es i f r k:Nat) (h:ν b=some (r,k)):VR ν F w (.ptr b es i f) (.pointer (some ⟨r,i*es+f,none⟩))
 |sl (b es i n:Nat) (A:Option Addr) (c:Nat)
  (h1:0<n→∃r k,ν b=some (r,k)∧A=some ⟨r,i*es,none⟩∧i+n≤k∧c=k-i)
  (h2:n=0→i=0→(∃r k,ν b=some (r,k)∧A=some ⟨r,0,none⟩∧c=k)∨(A=none∧c=0)) (h3:n≤c)
  (h4:n=0→0<i→c=0∨∃r k,ν b=some (r,k)∧A=some ⟨r,i*es,none⟩∧i≤k∧c=k-i:=by intro _ h;exact absurd h (by decide)):VR ν F w (.sl b es i n) (.slice A n c)
 |ep (cells:List D) (b off:Nat) (val:Nat→Value)
  (hw:∀j x,cells[j]? =some x→w.cell? ⟨b,off+j,none⟩=some (val j))
  (hF:∀j x,cells[j]? =some x→F b (off+j))
  (h:∀j x,cells[j]? =some x→DR F w x (val j)):VR ν F w (.ep cells) (.pointer (some ⟨b,off,none⟩))
 |fn (f:Fn) (first captured:List G) (fs cs:Array Value) (h1:fs.size=first.length) (h2:cs.size=captured.length)
  (k1:∀(j:Nat) g u,first[j]? =some g→fs[j]? =some u→VR ν F w g u) (k2:∀(j:Nat) g u,captured[j]? =some g→cs[j]? =some u→VR ν F w g u):VR ν F w (.fn f first captured) (.func f fs cs)
 |agg (cells:List G) (cs:Array Value) (h1:cs.size=cells.length) (hc:∀u,u∈cs.toList→u.oneCell'=true)
  (k:∀(j:Nat) g u,cells[j]? =some g→cs[j]? =some u→VR ν F w g u):VR ν F w (.agg cells) (.agg cs)
 |tup (vs:List G) (us:Array Value) (h1:us.size=vs.length)
  (k:∀(j:Nat) g u,vs[j]? =some g→us[j]? =some u→VR ν F w g u):VR ν F w (.tup vs) (.tuple us)
 |iface (t:TypeId) (g:G) (u:Value) (h:VR ν F w g u):VR ν F w (.iface t g) (.iface t u)
 |mp (b r k:Nat) (h:ν b=some (r,k)):VR ν F w (.mp b) (.map (some r))
 |opt (c:Bool) (g:G) (u:Value) (h:c=true→VR ν F w g u) (h0:c=false→u=undef):VR ν F w (.opt c g) u
 |ex (v:Value) (g:G) (h:VR ν F w g v):VR ν F w (.ex v g) v
 |junk (u:Value):VR ν F w .junk u
end
def szAt (w:World) (b:Nat):Option Nat:=
 match w.heap[b]? with
 |some (.cells arr _ _)=>some arr.size
 |_=>none
theorem szAt_of {w w':World} {b:Nat} (h:w'.heap[b]? =w.heap[b]?):szAt w' b=szAt w b:=by unfold szAt;rw[h]
structure Keep (F:Fz) (w:World) (F':Fz) (w':World):Prop where
 sub:∀b o,F b o→F' b o
 same:∀b o,F b o→w'.cell? ⟨b,o,none⟩=w.cell? ⟨b,o,none⟩
 sz:∀b o,F b o→szAt w' b=szAt w b
def More (ν ν':Nu):Prop:=∀i p,ν i=some p→ν' i=some p
theorem Keep.refl (F:Fz) (w:World):Keep F w F w:=⟨fun _ _ h=>h,fun _ _ _=>rfl,fun _ _ _=>rfl⟩
theorem Keep.trans {F F' F'':Fz} {w w' w'':World} (h:Keep F w F' w') (k:Keep F' w' F'' w''):Keep F w F'' w'':=
 ⟨fun b o x=>k.sub b o (h.sub b o x),fun b o x=>(k.same b o (h.sub b o x)).trans (h.same b o x),fun b o x=>(k.sz b o (h.sub b o x)).trans (h.sz b o x)⟩
theorem More.refl (ν:Nu):More ν ν:=fun _ _ h=>h
theorem More.trans {ν ν' ν'':Nu} (h:More ν ν') (k:More ν' ν''):More ν ν'':=fun i p x=>k i p (h i p x)
theorem DR.keep {F F':Fz} {w w':World} {x:D} {v:Value} (h:DR F w x v) (k:Keep F w F' w'):DR F' w' x v:=by
 induction h with
 |sc v h=>exact .sc v h
 |row dflt cells xs A c b off es val hA hc hl hw hF _ ih=>
  exact .row dflt cells xs A c b off es val hA hc hl (fun i e j x h1 h2=>(k.same _ _ (hF i e j x h1 h2)).trans (hw i e j x h1 h2)) (fun i e j x h1 h2=>k.sub _ _ (hF i e j x h1 h2)) ih
theorem VR.keep {ν ν':Nu} {F F':Fz} {w w':World} {g:G} {v:Value} (h:VR ν F w g v) (k:Keep F w F' w') (m:More ν ν'):VR ν' F' w' g v:=by
 induction h with
 |d h=>exact .d (h.keep k)
 |ptr b es i f r k h=>exact .ptr b es i f r k (m _ _ h)
 |sl b es i n A c h1 h2 h3 h4=>
  refine .sl b es i n A c (fun h=> ?_) (fun ha hb=> ?_) h3 (fun ha hb=>(h4 ha hb).imp id fun ⟨r,k,e,h⟩=>⟨r,k,m _ _ e,h⟩)
  ·obtain ⟨r,k,e,h⟩:=h1 h
   exact ⟨r,k,m _ _ e,h⟩
  ·rcases h2 ha hb with ⟨r,k,e,h⟩|h
   ·exact .inl ⟨r,k,m _ _ e,h⟩
   ·exact .inr h
 |ep cells b off val hw hF h=>exact .ep cells b off val (fun j x h1=>(k.same _ _ (hF j x h1)).trans (hw j x h1)) (fun j x h1=>k.sub _ _ (hF j x h1)) (fun j x h1=>(h j x h1).keep k)
 |fn f first captured fs cs h1 h2 _ _ i1 i2=>exact .fn f first captured fs cs h1 h2 i1 i2
 |agg cells cs h1 hc _ ih=>exact .agg cells cs h1 hc ih
 |tup vs us h1 _ ih=>exact .tup vs us h1 ih
 |iface t g u _ ih=>exact .iface t g u ih
 |mp b r k h=>exact .mp b r k (m _ _ h)
 |opt c g u _ h0 ih=>exact .opt c g u ih h0
 |ex v g _ ih=>exact .ex v g ih
 |junk u=>exact .junk u
def Born (es:Array MapEntry) (c:Nat):Prop:=(es.toList.map (·.born)).Nodup∧∀x,x∈es.toList→x.born<c
def BR (ν:Nu) (F:Fz) (w:World) (p:Option (Nat×Nat)):Blk→Prop
 | .box cells=>∃r k arr T,p=some (r,k)∧w.heap[r]? =some (.cells arr T (0,0))∧arr.size=cells.length∧(∀u,u∈arr.toList→u.oneCell'=true)∧
  (∀(j:Nat) g u,cells[j]? =some g→arr[j]? =some u→VR ν F w g u)∧∀o,¬F r o
 | .row ty es _ cells xs fz=>(p=none∧xs= []∧fz=0)∨∃r k arr,p=some (r,k)∧w.heap[r]? =some (.cells arr ty (0,0))∧k≤maxLen∧arr.size=k*es∧xs.length≤k∧(∀e,e∈xs→(cells e).length=es)∧
  (∀u,u∈arr.toList→u.oneCell'=true)∧
  (∀(i:Nat) e (j:Nat) x u,xs[i]? =some e→(cells e)[j]? =some x→arr[i*es+j]? =some u→DR F w x u)∧(∀o,F r o↔o<fz*es)∧fz≤xs.length
 | .mp L=>∃r k es c,p=some (r,k)∧w.heap[r]? =some (.map es c)∧es.toList.map (fun x=>(x.key,x.val))=L∧((∀x,x∈L→x.2.oneCell'=true)∧Born es c)∧∀o,¬F r o
 | .tbx T vs=>∃r k,p=some (r,k)∧w.heap[r]? =some (.cells vs.toArray T (0,0))∧∀o,¬F r o
abbrev Hp:=Nat→Option Blk
class Laid where
 gl:List (Nat×List D)
def Glob [Laid] (F:Fz) (w:World):Prop:=∀q,q∈Laid.gl→VR (fun _=>none) F w (.ep q.2) (.pointer (some ⟨q.1,0,none⟩))∧szAt w q.1=some q.2.length∧F q.1 0
theorem Glob.keep [Laid] {F F':Fz} {w w':World} (h:Glob F w) (k:Keep F w F' w'):Glob F' w':=fun q hq=>by
 obtain ⟨h1,h2,h3⟩:=h q hq
 exact ⟨h1.keep k (More.refl _),(k.sz _ _ h3).trans h2,k.sub _ _ h3⟩
def globG:List (Nat×List D)→Nat→G
 | [],g=> .d (.sc (.pointer (some ⟨g,0,none⟩)))
 |(b,x)::l,g=>bif Nat.beq g b then .ep x else globG l g
theorem globG_mem:∀(l:List (Nat×List D)) (g:Nat),(∃x,(g,x)∈l∧globG l g= .ep x)∨globG l g= .d (.sc (.pointer (some ⟨g,0,none⟩))):=by
 intro l g
 induction l with
 |nil=>exact .inr rfl
 |cons x l ih=>
  obtain ⟨b,y⟩:=x
  simp only[globG]
  cases e:Nat.beq g b with
  |true=>rw[Nat.eq_of_beq_eq_true e];exact .inl ⟨y,List.mem_cons_self,rfl⟩
  |false=>exact ih.imp (fun ⟨x,h1,h2⟩=>⟨x,List.mem_cons_of_mem _ h1,h2⟩) id
structure Rel [Laid] (ν:Nu) (F:Fz) (w:World) (H:Hp):Prop where
 inj:∀i j r k k',(H i).isSome=true→(H j).isSome=true→ν i=some (r,k)→ν j=some (r,k')→i=j
 blk:∀i b,H i=some b→BR ν F w (ν i) b
 old:∀b o,F b o→(w.cell? ⟨b,o,none⟩).isSome=true
 glob:Glob F w
def Mine (ν:Nu) (H:Hp) (r:Nat):Prop:=∃i k,(H i).isSome=true∧ν i=some (r,k)
structure Evo (ν:Nu) (F:Fz) (w:World) (H:Hp) (ν':Nu) (F':Fz) (w':World) (H':Hp):Prop where
 keep:Keep F w F' w'
 os:w'.os=w.os
 tape:w'.tape=w.tape
 output:w'.output=w.output
 size:w.heap.size≤w'.heap.size
 frame:∀r,r<w.heap.size→¬Mine ν H r→w'.heap[r]? =w.heap[r]?
 mine:∀r,Mine ν' H' r→Mine ν H r∨w.heap.size≤r
 fz:∀b o,F' b o→F b o∨Mine ν H b∨w.heap.size≤b
theorem Evo.refl (ν:Nu) (F:Fz) (w:World) (H:Hp):Evo ν F w H ν F w H:=
 ⟨Keep.refl _ _,rfl,rfl,rfl,Nat.le_refl _,fun _ _ _=>rfl,fun _ h=> .inl h,fun _ _ h=> .inl h⟩
theorem Evo.trans {ν ν' ν'':Nu} {F F' F'':Fz} {w w' w'':World} {H H' H'':Hp} (h:Evo ν F w H ν' F' w' H') (k:Evo ν' F' w' H' ν'' F'' w'' H''):Evo ν F w H ν'' F'' w'' H'':=by
 refine ⟨h.keep.trans k.keep,k.os.trans h.os,k.tape.trans h.tape,k.output.trans h.output,Nat.le_trans h.size k.size,fun r hr hm=> ?_,fun r hr=> ?_,fun b o hb=> ?_⟩
 ·refine (k.frame r (Nat.lt_of_lt_of_le hr h.size) fun hx=> ?_).trans (h.frame r hr hm)
  rcases h.mine r hx with h1|h1
  ·exact hm h1
  ·omega
 ·rcases k.mine r hr with h1|h1
  ·exact h.mine r h1
  ·exact .inr (Nat.le_trans h.size h1)
 ·rcases k.fz b o hb with h1|h1|h1
  ·exact h.fz b o h1
  ·exact .inr (h.mine b h1)
  ·exact .inr (.inr (Nat.le_trans h.size h1))
theorem Evo.drew {ν ν':Nu} {F F':Fz} {w w':World} {H H':Hp} (h:Evo ν F w.drew H ν' F' w' H'):Evo ν F w H ν' F' w' H':=
 ⟨⟨h.keep.sub,h.keep.same,h.keep.sz⟩,h.os,h.tape,h.output,h.size,h.frame,h.mine,h.fz⟩
theorem Keep.drew (F:Fz) (w:World):Keep F w F w.drew:=⟨fun _ _ h=>h,fun _ _ _=>rfl,fun _ _ _=>rfl⟩
theorem BR.keep {ν ν':Nu} {F F':Fz} {w w':World} {p:Option (Nat×Nat)} {b:Blk} (h:BR ν F w p b) (k:Keep F w F' w') (m:More ν ν')
 (hw:∀r k,p=some (r,k)→w'.heap[r]? =w.heap[r]?) (hF:∀r k,p=some (r,k)→∀o,F' r o↔F r o):BR ν' F' w' p b:=by
 cases b with
 |box cells=>
  obtain ⟨r,q,arr,T,e,h1,h2,h2',h3,h4⟩:=h
  exact ⟨r,q,arr,T,e,(hw r q e).trans h1,h2,h2',fun j g u a b=>(h3 j g u a b).keep k m,fun o ho=>h4 o ((hF r q e o).1 ho)⟩
 |row ty es dflt cs xs fz=>
  rcases h with h|⟨r,q,arr,e,h1,h1',h2,h3,h4,h5,h6,h7,h8⟩
  ·exact .inl h
  ·exact .inr ⟨r,q,arr,e,(hw r q e).trans h1,h1',h2,h3,h4,h5,fun i e j x u a b c=>(h6 i e j x u a b c).keep k,fun o=>(hF r q e o).trans (h7 o),h8⟩
 |mp L=>
  obtain ⟨r,q,es,c,e,h1,h2,h3,h4⟩:=h
  exact ⟨r,q,es,c,e,(hw r q e).trans h1,h2,h3,fun o ho=>h4 o ((hF r q e o).1 ho)⟩
 |tbx T vs=>
  obtain ⟨r,q,e,h1,h4⟩:=h
  exact ⟨r,q,e,(hw r q e).trans h1,fun o ho=>h4 o ((hF r q e o).1 ho)⟩
theorem BR.lt {ν:Nu} {F:Fz} {w:World} {r k:Nat} {b:Blk} (h:BR ν F w (some (r,k)) b):r<w.heap.size:=by
 cases b with
 |box cells=>
  obtain ⟨r',q,arr,T,e,h1,_⟩:=h
  cases e;exact (Array.getElem?_eq_some_iff.1 h1).1
 |row ty es dflt cs xs fz=>
  rcases h with ⟨h,_⟩|⟨r',q,arr,e,h1,_⟩
  ·cases h
  ·cases e;exact (Array.getElem?_eq_some_iff.1 h1).1
 |mp L=>
  obtain ⟨r',q,es,c,e,h1,_⟩:=h
  cases e;exact (Array.getElem?_eq_some_iff.1 h1).1
 |tbx T vs=>
  obtain ⟨r',q,e,h1,_⟩:=h
  cases e;exact (Array.getElem?_eq_some_iff.1 h1).1
theorem Rel.drew [Laid] {ν:Nu} {F:Fz} {w:World} {H:Hp} (h:Rel ν F w H):Rel ν F w.drew H:=
 ⟨h.inj,fun i b hb=>(h.blk i b hb).keep (Keep.drew F w) (More.refl _) (fun _ _ _=>rfl) (fun _ _ _ _=>Iff.rfl),h.old,h.glob.keep (Keep.drew F w)⟩
theorem Rel.mine_lt [Laid] {ν:Nu} {F:Fz} {w:World} {H:Hp} (h:Rel ν F w H) {r:Nat} (hm:Mine ν H r):r<w.heap.size:=by
 obtain ⟨i,k,hi,e⟩:=hm
 obtain ⟨b,hb⟩:=Option.isSome_iff_exists.1 hi
 have:=h.blk i b hb
 rw[e]at this
 exact this.lt
theorem Rel.old_lt [Laid] {ν:Nu} {F:Fz} {w:World} {H:Hp} (h:Rel ν F w H) {b o:Nat} (hf:F b o):b<w.heap.size:=by
 obtain ⟨v,hv⟩:=Option.isSome_iff_exists.1 (h.old b o hf)
 exact World.block_lt_of_cell? w ⟨b,o,none⟩ hv
structure Eff:Type 1 where
 g:G
 upd:List (Nat×Option Blk):=[]
 fp:List Nat:=[]
 new:List Nat:=[]
def look {α:Type 1} (l:List (Nat×Option α)) (H:Nat→Option α) (i:Nat):Option α:=
 match l with
 | []=>H i
 |(j,b)::l=>bif Nat.beq i j then b else look l H i
end Go.Gh
namespace Go.Gh
open Go Go.RowKit
def touched (E:Eff):List Nat:=E.upd.map (·.1)
def Oper.wpX (P:Program) (o:Oper) (a:Act) (w:World) (K:Act→World→Prop):Prop:=
 (∀c,o.op≠ .defer c)∧match (execOp a.eval o).run P w with
 | .ok (.value v) w'=>K (a.put o.dst v) w'
 | .ok .skip w'=>K (a.put o.dst undef) w'
 | .ok (.enter f args) w'=>Calls P f args w' fun e w''=>∃v,e= .returned v∧K (a.put o.dst v) w''
 |_=>False
theorem noDefer_of {P:Program} {o:Oper} {a:Act} {w w':World} {n:Next} (h:(execOp a.eval o).run P w= .ok n w') (hn:∀d,n≠ .defer d):∀c,o.op≠ .defer c:=fun c e=>by
 simp only[execOp,e,Sem.run_bind]at h
 cases hr:(resolve a.eval c o.type).run P w with
 |ok d w1=>rw[hr]at h;simp only[Result.andThen_ok,Sem.run_pure]at h;injection h with h1 h2;exact hn d h1.symm
 |halt x w1=>rw[hr]at h;cases h
theorem Oper.wpX_mono {P:Program} {o:Oper} {a:Act} {w:World} {K K':Act→World→Prop} (h:∀a w,K a w→K' a w) (hh:Oper.wpX P o a w K):Oper.wpX P o a w K':=by
 unfold Oper.wpX at*
 refine ⟨hh.1,?_⟩
 replace hh:=hh.2
 generalize (execOp a.eval o).run P w=r at*
 cases r with
 |ok n w'=>
  cases n<;>first|exact h _ _ hh|exact Calls.mono hh (fun e w'' ⟨v,e1,e2⟩=>⟨v,e1,h _ _ e2⟩)|exact hh
 |halt x w'=>exact hh
def rnd (ro:Option Nat):Fence:= {Fence.wide with round:=ro}
theorem callsIn_rnd {ro:Option Nat} {n:Nat} {P:Program} {f:FuncId} {args:Array Value} {w:World} {R:Ending→World→Prop} (h:Calls P f args w R):CallsIn (rnd ro) n P f args w R:=(callsIn_wide (n:=n)).2 h
theorem wpIn_of_wpX {P:Program} {o:Oper} {a:Act} {w:World} {K:Act→World→Prop} {Q:Exit→Act→World→Prop} {ro:Option Nat} {n:Nat} (h:Oper.wpX P o a w K):o.wpIn (rnd ro) n P a w K Q:=by
 refine ⟨fun _ _=>trivial,?_⟩
 obtain ⟨h1,h⟩:=h
 rw[Oper.semAt_eq _ _ _ h1]
 generalize (execOp a.eval o).run P w=r at*
 cases r with
 |ok x w'=>
  cases x<;>first
   |exact h
   |exact h.elim
   |exact ⟨fun hh=>(by cases hh),CallsIn.mono (callsIn_rnd h) (fun e w'' ⟨v,e1,e2⟩=>by subst e1;exact e2)⟩
 |halt x w'=>exact h.elim
def isMark (d:Deferred):Bool:=match d.target with
 | .collected _=>true
 |_=>false
def Marks (l:List Deferred) (w:World):Prop:=∃Ds:List Nat,Ds.Nodup∧l.filter isMark=Ds.map (fun D=> {target:= .collected D,args:= #[]})∧∀D,D∈Ds→w.heap[D]? =some (.deferred (some []))
theorem filter_marks (Ds:List Nat):(Ds.map (fun D=>({target:= .collected D,args:= #[]} :Deferred))).filter isMark=Ds.map (fun D=> {target:= .collected D,args:= #[]}):=by
 rw[List.filter_eq_self]
 intro d hd
 obtain ⟨D,_,rfl⟩:=List.mem_map.1 hd
 rfl
theorem mem_marks {l:List Deferred} {Ds:List Nat} (h:l.filter isMark=Ds.map (fun D=> {target:= .collected D,args:= #[]})) {D:Nat} :({target:= .collected D,args:= #[]} :Deferred)∈l↔D∈Ds:=by
 constructor
 ·intro hm
  have:({target:= .collected D,args:= #[]} :Deferred)∈l.filter isMark:=List.mem_filter.2 ⟨hm,rfl⟩
  rw[h]at this
  obtain ⟨D',hD',e⟩:=List.mem_map.1 this
  injection e with e _;injection e with e
  exact e▸hD'
 ·intro hm
  have:({target:= .collected D,args:= #[]} :Deferred)∈l.filter isMark:=by rw[h];exact List.mem_map.2 ⟨D,hm,rfl⟩
  exact (List.mem_filter.1 this).1
theorem Marks.nil (w:World):Marks [] w:=⟨[],List.nodup_nil,rfl,fun D h=>(by cases h)⟩
theorem mark_evo [Laid] {ν ν':Nu} {F F':Fz} {w w':World} {H H':Hp} (hr:Rel ν F w H) (he:Evo ν F w H ν' F' w' H') {D:Nat} (h4:w.heap[D]? =some (.deferred (some []))):w'.heap[D]? =some (.deferred (some [])):=by
 have hlt:D<w.heap.size:=(Array.getElem?_eq_some_iff.1 h4).1
 rw[he.frame D hlt fun ⟨i,k,hi,e⟩=> ?_]
 ·exact h4
 ·obtain ⟨b,hb⟩:=Option.isSome_iff_exists.1 hi
  have hbr:=hr.blk i b hb
  rw[e]at hbr
  cases b with
  |box cells=>obtain ⟨r,q,arr,T,e1,h5,_⟩:=hbr;cases e1;rw[h4]at h5;cases h5
  |row ty es df cs xs fz=>
   rcases hbr with ⟨h5,_⟩|⟨r,q,arr,e1,h5,_⟩
   ·cases h5
   ·cases e1;rw[h4]at h5;cases h5
  |mp L=>obtain ⟨r,q,es,c,e1,h5,_⟩:=hbr;cases e1;rw[h4]at h5;cases h5
  |tbx T vs=>obtain ⟨r,q,e1,h5,_⟩:=hbr;cases e1;rw[h4]at h5;cases h5
theorem Marks.evo [Laid] {l:List Deferred} {ν ν':Nu} {F F':Fz} {w w':World} {H H':Hp} (h:Marks l w) (hr:Rel ν F w H) (he:Evo ν F w H ν' F' w' H'):Marks l w':=by
 obtain ⟨Ds,h1,h2,h3⟩:=h
 exact ⟨Ds,h1,h2,fun D hD=>mark_evo hr he (h3 D hD)⟩
def Lives (ro:Option Nat) (w:World):Prop:=∀l,ro=some l→∃r,w.heap[l]? =some (.loop r)
theorem Lives.none (w:World):Lives none w:=fun l h=>(by cases h)
theorem Lives.evo [Laid] {ro:Option Nat} {ν ν':Nu} {F F':Fz} {w w':World} {H H':Hp} (h:Lives ro w) (hr:Rel ν F w H) (he:Evo ν F w H ν' F' w' H'):Lives ro w':=by
 intro l hl
 obtain ⟨x,h4⟩:=h l hl
 have hlt:l<w.heap.size:=(Array.getElem?_eq_some_iff.1 h4).1
 refine ⟨x,?_⟩
 rw[he.frame l hlt fun ⟨i,k,hi,e⟩=> ?_]
 ·exact h4
 ·obtain ⟨b,hb⟩:=Option.isSome_iff_exists.1 hi
  have hbr:=hr.blk i b hb
  rw[e]at hbr
  cases b with
  |box cells=>obtain ⟨r,q,arr,T,e1,h5,_⟩:=hbr;cases e1;rw[h4]at h5;cases h5
  |row ty es df cs xs fz=>
   rcases hbr with ⟨h5,_⟩|⟨r,q,arr,e1,h5,_⟩
   ·cases h5
   ·cases e1;rw[h4]at h5;cases h5
  |mp L=>obtain ⟨r,q,es,c,e1,h5,_⟩:=hbr;cases e1;rw[h4]at h5;cases h5
  |tbx T vs=>obtain ⟨r,q,e1,h5,_⟩:=hbr;cases e1;rw[h4]at h5;cases h5
structure Pin (p:Nat) (ν ν':Nu) (l l':List Deferred) (n:Nat):Prop where
 pin:∀i,i<p→ν' i=ν i
 more:∃Ds:List Nat,l'=Ds.map (fun D=> {target:= .collected D,args:= #[]})++l∧∀D,D∈Ds→n≤D
instance {p:Nat} {ν ν':Nu} {l l':List Deferred} {n:Nat} :CoeFun (Pin p ν ν' l l' n) (fun _=>∀i,i<p→ν' i=ν i):=⟨Pin.pin⟩
theorem Pin.refl (p:Nat) (ν:Nu) (l:List Deferred) (n:Nat):Pin p ν ν l l n:=⟨fun _ _=>rfl,[],rfl,fun D h=>(by cases h)⟩
theorem Pin.of {p:Nat} {ν ν':Nu} {l l':List Deferred} (n:Nat) (e:l'=l) (h:∀i,i<p→ν' i=ν i):Pin p ν ν' l l' n:=⟨h,[],e,fun D h=>(by cases h)⟩
theorem Pin.trans {p:Nat} {ν ν' ν'':Nu} {l l' l'':List Deferred} {n n':Nat} (h:Pin p ν ν' l l' n) (k:Pin p ν' ν'' l' l'' n') (hn:n≤n'):Pin p ν ν'' l l'' n:=by
 obtain ⟨h1,D1,h2,h3⟩:=h
 obtain ⟨k1,D2,k2,k3⟩:=k
 refine ⟨fun i hi=>(k1 i hi).trans (h1 i hi),D2++D1,by rw[k2,h2];simp,fun D hD=> ?_⟩
 rcases List.mem_append.1 hD with hD|hD
 ·exact Nat.le_trans hn (k3 D hD)
 ·exact h3 D hD
theorem Pin.less {p p':Nat} {ν ν':Nu} {l l':List Deferred} {n:Nat} (h:Pin p ν ν' l l' n) (hp:p'≤p):Pin p' ν ν' l l' n:=⟨fun i hi=>h.pin i (Nat.lt_of_lt_of_le hi hp),h.more⟩
def GOp [Laid] (P:Program) (o:Oper) (ρ:Operand→G) (H:Hp) (E:Eff):Prop:=
 ∀(ν:Nu) (F:Fz) (w:World) (a:Act),(∀x,x∈o.op.operands.toList→VR ν F w (ρ x) (a.eval x))→Rel ν F w H→(∀i,i∈E.new→ν i=none)→
  Oper.wpX P o a w (fun a' w'=>∃(ν':Nu) (F':Fz) (v:Value),a'=a.put o.dst v∧VR ν' F' w' E.g v∧Rel ν' F' w' (look E.upd H)∧More ν ν'∧(∀i,ν' i≠ν i→i∈E.new)∧
   Evo ν F w H ν' F' w' (look E.upd H))
def LOp [Laid] (P:Program) (o:Oper) (ρ:Operand→G) (H:Hp) (E:Eff):Prop:=
 ∀H':Hp,(∀i,i∈E.fp→H' i=H i)→(∀i,i∈E.new→H' i=none)→GOp P o ρ H' E
structure St:Type 1 where
 tmps:List (Nat×G)
 hp:List (Nat×Option Blk)
 next:Nat
def getG:List (Nat×G)→Nat→G
 | [],_=> .junk
 |(k,g)::l,t=>bif Nat.beq t k then g else getG l t
def St.get (σ:St) (t:Nat):G:=getG σ.tmps t
def noHp:Hp:=fun _=>none
def St.H (σ:St):Hp:=look σ.hp noHp
def constG:Value→G
 | .agg _=> .junk
 | .tuple _=> .junk
 |v=> .d (.sc v)
def deEx:G→G
 | .ex _ g=>g
 |g=>g
theorem deEx_sound {ν:Nu} {F:Fz} {w:World} {g:G} {v:Value} (h:VR ν F w g v):VR ν F w (deEx g) v:=by
 cases h with
 |ex v g h=>exact h
 |d h=>exact .d h
 |ptr b es i f r k h=>exact .ptr b es i f r k h
 |sl b es i n A c h1 h2 h3 h4=>exact .sl b es i n A c h1 h2 h3 h4
 |ep cells b off val hw hF h=>exact .ep cells b off val hw hF h
 |fn f a b fs cs h1 h2 k1 k2=>exact .fn f a b fs cs h1 h2 k1 k2
 |agg cells cs h1 hc k=>exact .agg cells cs h1 hc k
 |tup vs us h1 k=>exact .tup vs us h1 k
 |iface t g _ h=>exact .iface t g _ h
 |mp b r k h=>exact .mp b r k h
 |opt c g _ h h0=>exact .opt c g _ h h0
 |junk _=>exact .junk _
def St.ev [Laid] (σ:St):Operand→G
 | .tmp t=>deEx (σ.get t)
 | .const v=>constG v
 | .func f=> .d (.sc (.func (.func f) #[] #[]))
 | .global g=>globG Laid.gl g
structure RS [Laid] (σ:St) (ν:Nu) (F:Fz) (a:Act) (w:World) (nt p:Nat):Prop where
 pin:p≤σ.next
 vals:∀t,VR ν F w (σ.get t) (a.tmps.getD t undef)
 rel:Rel ν F w σ.H
 defers:Marks a.defers w
 free:∀i,σ.next≤i→ν i=none
 size:a.tmps.size=nt
 fresh:∀i,σ.next≤i→σ.H i=none
theorem VR.const {ν:Nu} {F:Fz} {w:World} (v:Value):VR ν F w (constG v) v:=by
 cases v<;>first|exact .junk _|exact .d (.sc _ rfl)
theorem ev_sound [Laid] {σ:St} {ν:Nu} {F:Fz} {a:Act} {w:World} (hg:Glob F w) (h:∀t,VR ν F w (σ.get t) (a.tmps.getD t undef)) (x:Operand):VR ν F w (σ.ev x) (a.eval x):=by
 cases x with
 |tmp t=>exact deEx_sound (h t)
 |const v=>exact .const v
 |func f=>exact .d (.sc _ rfl)
 |global g=>
  rcases globG_mem Laid.gl g with ⟨x,h,e⟩|h
  ·show VR ν F w (globG Laid.gl g) _
   rw[e]
   exact (hg _ h).1.keep (Keep.refl _ _) (fun i p hi=>by cases hi)
  ·show VR ν F w (globG Laid.gl g) _
   rw[h];exact .d (.sc _ rfl)
def strip:G→G
 | .opt _ g=>g
 |g=>g
def stripOk (c:Bool):G→Prop
 | .opt c' _=>c=true→c'=true
 |_=>True
theorem strip_sound {ν:Nu} {F:Fz} {w:World} {g:G} {v:Value} (h:VR ν F w g v) {c:Bool} (hc:c=true) (ho:stripOk c g):VR ν F w (strip g) v:=by
 cases g<;>first|exact h|skip
 cases h with
 |opt c' g' u h h0=>exact h (ho hc)
structure Step:Type 1 where
 c:Bool
 ρ:Operand→G
 E:Eff
 val:G
def wantOf (ops:Array Oper) (σ:St) (o:Oper):Option Bool:=
 match o.guard with
 |none=>some true
 |some (j,want)=>
  match (ops[j]?).bind (·.dst)with
  |none=>none
  |some d=>
   match σ.get d with
   | .d (.sc (.bool b))=>match want with
     |true=>some b
     |false=>some (!b)
   | .opt c' (.d (.sc (.bool b)))=>match want with
     |true=>some (c'&&b)
     |false=>some (c'&& !b)
   |_=>none
structure SOK [Laid] (P:Program) (ops:Array Oper) (nt:Nat) (σ:St) (o:Oper) (s:Step):Prop where
 want:wantOf ops σ o=some s.c
 strips:∀x,x∈o.op.operands.toList→∀(ν:Nu) (F:Fz) (w:World) (v:Value),s.c=true→VR ν F w (σ.ev x) v→VR ν F w (s.ρ x) v
 op:s.c=true→LOp P o s.ρ σ.H s.E
 val:(s.c=true∧s.val=s.E.g)∨s.val= .opt s.c s.E.g∨s.val= .junk
 quiet:s.c=true∨(s.E.upd= []∧s.E.new= [])
 upd:∀i,i∈touched s.E→i∈s.E.fp∨i∈s.E.new
 new:∀i,i∈s.E.new→σ.next≤i∧i<σ.next+s.E.new.length
 fpl:∀i,i∈s.E.fp→i<σ.next
 newt:∀i,i∈s.E.new→i∈touched s.E
 dst:∀d,o.dst=some d→d<nt
def St.app (σ:St) (o:Oper) (s:Step):St:=
 {tmps:=match o.dst with
  |some d=>(d,s.val)::σ.tmps
  |none=>σ.tmps
  hp:=s.E.upd++σ.hp
  next:=σ.next+s.E.new.length}
theorem look_append {α:Type 1} (l l':List (Nat×Option α)) (H:Nat→Option α):look (l++l') H=look l (look l' H):=by
 funext i
 induction l with
 |nil=>rfl
 |cons p l ih=>
  obtain ⟨j,b⟩:=p
  simp only[List.cons_append,look,ih]
theorem look_other {α:Type 1} (l:List (Nat×Option α)) (H:Nat→Option α) (i:Nat) (h:i∉l.map (·.1)):look l H i=H i:=by
 induction l with
 |nil=>rfl
 |cons p l ih=>
  obtain ⟨j,b⟩:=p
  simp only[List.map_cons,List.mem_cons,not_or]at h
  have hne:Nat.beq i j=false:=by
   cases e:Nat.beq i j with
   |false=>rfl
   |true=>exact absurd (Nat.eq_of_beq_eq_true e) h.1
  simp only[look,hne,cond_false]
  exact ih h.2
theorem look_congr {α:Type 1} (l:List (Nat×Option α)) (H H':Nat→Option α) (i:Nat) (h:H i=H' i):look l H i=look l H' i:=by
 induction l with
 |nil=>exact h
 |cons p l ih=>
  obtain ⟨j,b⟩:=p
  simp only[look,ih]
theorem look_mem {α:Type 1} (l:List (Nat×Option α)) (H H':Nat→Option α) (i:Nat) (h:i∈l.map (·.1)):look l H i=look l H' i:=by
 induction l with
 |nil=>simp at h
 |cons p l ih=>
  obtain ⟨j,b⟩:=p
  simp only[List.map_cons,List.mem_cons]at h
  simp only[look]
  cases e:Nat.beq i j with
  |true=>rfl
  |false=>
   simp only[cond_false]
   refine ih (h.resolve_left fun hh=> ?_)
   subst hh
   rw[Nat.beq_refl]at e
   cases e
theorem St.H_app (σ:St) (o:Oper) (s:Step):(σ.app o s).H=look s.E.upd σ.H:=look_append _ _ _
theorem SOK.touch [Laid] {P:Program} {ops:Array Oper} {nt:Nat} {σ:St} {o:Oper} {s:Step} (h:SOK P ops nt σ o s) {i:Nat} (hi:i∈touched s.E):i<σ.next+s.E.new.length:=by
 rcases h.upd i hi with h1|h1
 ·have:=h.fpl i h1;omega
 ·exact (h.new i h1).2
theorem St.get_app_other (σ:St) (o:Oper) (s:Step) (t:Nat) (h:o.dst≠some t):(σ.app o s).get t=σ.get t:=by
 unfold St.get St.app
 cases hd:o.dst with
 |none=>rfl
 |some d=>
  have hne:Nat.beq t d=false:=by
   cases e:Nat.beq t d with
   |false=>rfl
   |true=>exact absurd (by rw[hd,Nat.eq_of_beq_eq_true e]) h
  simp only[getG,hne,cond_false]
theorem St.get_app_same (σ:St) (o:Oper) (s:Step) (t:Nat) (h:o.dst=some t):(σ.app o s).get t=s.val:=by
 unfold St.get St.app
 rw[h]
 simp only[getG,Nat.beq_refl,cond_true]
theorem St.ev_congr [Laid] {σ σ':St} (x:Operand) (h:∀t,x= .tmp t→σ'.get t=σ.get t):σ'.ev x=σ.ev x:=by
 cases x with
 |tmp t=>exact congrArg deEx (h t rfl)
 |_=>rfl
theorem wanted_of {ops:Array Oper} {σ:St} {o:Oper} {c:Bool} (h:wantOf ops σ o=some c) {ν:Nu} {F:Fz} {w:World} {a:Act} (hv:∀t,VR ν F w (σ.get t) (a.tmps.getD t undef))
 (hsz:∀j want d,o.guard=some (j,want)→(ops[j]?).bind (·.dst)=some d→d<a.tmps.size):Region.wanted o (yielded ops a.tmps)=c:=by
 unfold wantOf at h
 unfold Region.wanted
 cases hg:o.guard with
 |none=>rw[hg]at h;injection h
 |some p=>
  obtain ⟨j,want⟩:=p
  simp only[hg]at h⊢
  cases hd:(ops[j]?).bind (·.dst)with
  |none=>rw[hd]at h;cases h
  |some d=>
   simp only[hd]at h
   have hlt:=hsz j want d hg hd
   have hv':=hv d
   have hy:yielded ops a.tmps j=match a.tmps[d]? with|some (.bool b)=>some b|_=>none:=by unfold yielded;rw[hd];rfl
   have hget:a.tmps[d]? =some (a.tmps.getD d undef):=by simp[Array.getD,hlt]
   rw[hy,hget]
   generalize a.tmps.getD d undef=u at hv'
   generalize hG:σ.get d=g at h hv'
   split at h
   ·rename_i b
    cases hv' with
    |d hd=>
     cases hd with
     |sc v hv=>
      cases want<;>(have hc:=Option.some.inj h;rw[←hc];cases b<;>rfl)
   ·rename_i c' b
    cases hv' with
    |opt _ _ _ h1 h0=>
     cases c' with
     |false=>rw[h0 rfl];cases want<;>(have hc:=Option.some.inj h;rw[←hc];rfl)
     |true=>
      have h2:=h1 rfl
      cases h2 with
      |d hd=>
       cases hd with
       |sc v hv=>cases want<;>(have hc:=Option.some.inj h;rw[←hc];cases b<;>rfl)
   ·cases h
theorem step_sound [Laid] {P:Program} {ops:Array Oper} {nt:Nat} {σ:St} {o:Oper} {s:Step} (hs:SOK P ops nt σ o s) {τ:St} (hT:∀t,t∈o.looksAt ops→τ.get t=σ.get t)
 (hH:∀i,i∈s.E.fp→τ.H i=σ.H i) (hN:∀i,i∈s.E.new→τ.H i=none) {ν:Nu} {F:Fz} {w:World} {a:Act}
 (vals:∀t,VR ν F w (τ.get t) (a.tmps.getD t undef)) (rel:Rel ν F w τ.H) (defers:Marks a.defers w) (hnew:∀i,i∈s.E.new→ν i=none) (size:a.tmps.size=nt)
 (hguard:∀j want d,o.guard=some (j,want)→(ops[j]?).bind (·.dst)=some d→d<nt)
 {K:Act→World→Prop} {Q:Exit→Act→World→Prop} {ro:Option Nat} {n:Nat}
 (h:∀a' w' (ν':Nu) (F':Fz),(∀t,o.dst≠some t→VR ν' F' w' (τ.get t) (a'.tmps.getD t undef))→(∀t,o.dst=some t→VR ν' F' w' s.val (a'.tmps.getD t undef))→
  Rel ν' F' w' (look s.E.upd τ.H)→a'.defers=a.defers→Marks a'.defers w'→(∀i,ν' i≠ν i→i∈s.E.new)→a'.tmps.size=nt→Evo ν F w τ.H ν' F' w' (look s.E.upd τ.H)→K a' w'):
 if Region.wanted o (yielded ops a.tmps)then o.wpIn (rnd ro) n P a w K Q else (∀f,o.about P w a.eval=some f→(rnd ro).fn f)∧K (a.put o.dst undef) w:=by
 have hwant:wantOf ops τ o=some s.c:=by
  rw[←hs.want]
  unfold wantOf
  cases hg:o.guard with
  |none=>rfl
  |some p=>
   obtain ⟨j,want⟩:=p
   simp only[]
   cases hd:(ops[j]?).bind (·.dst)with
   |none=>rfl
   |some d=>
    simp only[]
    rw[hT d (by simp[Oper.looksAt,hg,hd])]
 have hev:∀x,x∈o.op.operands.toList→τ.ev x=σ.ev x:=fun x hx=>St.ev_congr x fun t e=>hT t (by
  subst e
  simp only[Oper.looksAt,List.mem_append,List.mem_filterMap]
  exact .inl ⟨_,hx,rfl⟩)
 rw[wanted_of hwant vals (fun j want d e1 e2=>by rw[size];exact hguard j want d e1 e2)]
 have hput:∀v,(a.put o.dst v).defers=a.defers:=fun v=>by cases hd:o.dst<;>simp[Act.put]
 have hsize:∀v,(a.put o.dst v).tmps.size=nt:=fun v=>by cases hd:o.dst<;>simp[Act.put,size]
 have hother:∀v t,o.dst≠some t→(a.put o.dst v).tmps.getD t undef=a.tmps.getD t undef:=fun v t ht=>by
  cases hd:o.dst with
  |none=>rfl
  |some d=>
   have hne:d≠t:=fun e=>ht (by rw[hd,e])
   simp[Act.put,Array.getElem?_setIfInBounds_ne hne]
 have hsame:∀v t,o.dst=some t→(a.put o.dst v).tmps.getD t undef=v:=fun v t ht=>by
  have hlt:=hs.dst t ht
  rw[ht]
  simp[Act.put,size,hlt]
 cases hc:s.c with
 |true=>
  rw[if_pos rfl]
  refine wpIn_of_wpX (Oper.wpX_mono ?_ (hs.op hc τ.H (fun i hi=>hH i hi) hN ν F w a ?_ rel hnew))
  ·rintro a' w' ⟨ν',F',v,rfl,hv,hr,hm,hmn,he⟩
   refine h _ _ ν' F' (fun t ht=> ?_) (fun t ht=> ?_) hr (hput v) (by rw[hput];exact defers.evo rel he) hmn (hsize v) he
   ·rw[hother v t ht];exact (vals t).keep he.keep hm
   ·rw[hsame v t ht]
    rcases hs.val with ⟨_,e⟩|e|e
    ·rw[e];exact hv
    ·rw[e];exact .opt _ _ _ (fun _=>hv) (fun hx=>by rw[hc]at hx;cases hx)
    ·rw[e];exact .junk _
  ·intro x hx
   have hst:=hs.strips x hx
   rw[hc]at hst
   refine hst ν F w _ rfl ?_
   rw[←hev x hx]
   exact ev_sound rel.glob vals x
 |false=>
  rw[if_neg (by simp)]
  obtain ⟨q1,q2⟩:=hs.quiet.resolve_left (by rw[hc];simp)
  have hk:look s.E.upd τ.H=τ.H:=by rw[q1];rfl
  refine ⟨fun _ _=>trivial,h _ _ ν F (fun t ht=> ?_) (fun t ht=> ?_) (by rw[hk];exact rel) (hput _) (by rw[hput];exact defers) (fun i hi=>absurd rfl hi) (hsize _) (by rw[hk];exact Evo.refl _ _ _ _)⟩
  ·rw[hother undef t ht];exact vals t
  ·rw[hsame undef t ht]
   rcases hs.val with ⟨e,_⟩|e|e
   ·rw[hc]at e;cases e
   ·rw[e];exact .opt _ _ _ (fun hx=>by rw[hc]at hx;cases hx) (fun _=>rfl)
   ·rw[e];exact .junk _
end Go.Gh
namespace Go.Gh
open Go Go.RowKit
def GPost [Laid] (nt p:Nat) (ν:Nu) (F:Fz) (l:List Deferred) (w:World) (H:Hp) (Q:Exit→St→Prop):Exit→Act→World→Prop:=
 fun e a' w'=>∃(σ':St) (ν':Nu) (F':Fz),Q e σ'∧RS σ' ν' F' a' w' nt p∧Evo ν F w H ν' F' w' σ'.H∧Pin p ν ν' l a'.defers w.heap.size
def GW [Laid] (P:Program) (nt p:Nat) (c:Code) (σ:St) (Q:Exit→St→Prop):Prop:=
 ∀(ro:Option Nat) (ν:Nu) (F:Fz) (a:Act) (w:World),RS σ ν F a w nt p→Lives ro w→c.wpIn (rnd ro) 0 P (GPost nt p ν F a.defers w σ.H Q) a w
structure Foot where
 fp:List Nat
 tc:List Nat
def footOf (s:Step):Foot:=⟨s.E.fp,touched s.E⟩
inductive GRun [Laid] (P:Program) (ops:Array Oper) (nt:Nat) (Q:St→List Foot→Prop):List Oper→St→List Foot→Prop
 |nil (σ:St) (feet:List Foot) (h:Q σ feet):GRun P ops nt Q [] σ feet
 |cons (o:Oper) (rest:List Oper) (σ:St) (feet:List Foot) (s:Step) (hs:SOK P ops nt σ o s) (h:GRun P ops nt Q rest (σ.app o s) (feet++ [footOf s])):GRun P ops nt Q (o::rest) σ feet
def guardsOk (ops:Array Oper) (nt:Nat):Bool:=ops.all fun o=>match o.dst with
 |some d=>decide (d<nt)
 |none=>true
theorem guardsOk_spec {ops:Array Oper} {nt:Nat} (h:guardsOk ops nt=true) {j d:Nat} (hd:(ops[j]?).bind (·.dst)=some d):d<nt:=by
 cases ho:ops[j]? with
 |none=>rw[ho]at hd;cases hd
 |some o=>
  rw[ho]at hd
  have hmem:o∈ops:=Array.mem_of_getElem? ho
  have:=(Array.all_eq_true_iff_forall_mem.1 h) o hmem
  simp only[Option.bind_some]at hd
  simpa [hd]using this
section seq
variable {P:Program} {ops:Array Oper} {nt p:Nat} {Q:Exit→St→Prop}
theorem run_text [Laid] (hg:guardsOk ops nt=true) {ν0:Nu} {F0:Fz} {w0:World} {H0:Hp} {l0:List Deferred} {ro:Option Nat} :
 ∀(rest:List Oper) (σ:St) (feet:List Foot) (k:Nat),ops.toList.drop k=rest→GRun P ops nt (fun σ _=>Q .normal σ) rest σ feet→
 ∀(ν:Nu) (F:Fz) (a:Act) (w:World),RS σ ν F a w nt p→Evo ν0 F0 w0 H0 ν F w σ.H→Pin p ν0 ν l0 a.defers w0.heap.size→
 wpOpsIn (rnd ro) 0 P ops (GPost nt p ν0 F0 l0 w0 H0 Q) (List.range' k rest.length) a w:=by
 intro rest
 induction rest with
 |nil=>
  intro σ feet k hk h ν F a w hr he hp
  cases h with
  |nil _ _ h=>exact ⟨σ,ν,F,h,hr,he,hp⟩
 |cons o rest ih=>
  intro σ feet k hk h ν F a w hr he hp
  cases h with
  |cons _ _ _ _ s hs h=>
   have hlt:k<ops.toList.length:=by
    rcases Nat.lt_or_ge k ops.toList.length with h|h
    ·exact h
    ·rw[List.drop_eq_nil_of_le h]at hk;cases hk
   have hok:ops[k]? =some o:=by
    have:ops.toList[k]? =some o:=by
     have:=congrArg (·[0]?) hk
     simpa using this
    simpa using this
   have hrest:ops.toList.drop (k+1)=rest:=by
    have:=congrArg List.tail hk
    simpa [List.tail_drop]using this
   rw[List.length_cons,List.range'_succ,wpOpsIn,hok]
   have hN:∀i,i∈s.E.new→σ.H i=none:=fun i hi=>hr.fresh i (hs.new i hi).1
   refine step_sound hs (fun _ _=>rfl) (fun _ _=>rfl) hN hr.vals hr.rel hr.defers (fun i hi=>hr.free i (hs.new i hi).1) hr.size (fun j want d _ hd=>guardsOk_spec hg hd) ?_
   intro a' w' ν' F' v1 v2 hrel hdd hdef hnew hsz hev
   refine ih (σ.app o s) _ (k+1) hrest h ν' F' a' w' ⟨?_,?_,?_,hdef,?_,hsz,?_⟩ (he.trans (by rw[St.H_app];exact hev)) (hp.trans (Pin.of w.heap.size hdd fun i hi=> ?_) he.size)
   ·exact Nat.le_trans hr.pin (Nat.le_add_right _ _)
   ·intro t
    by_cases ht:o.dst=some t
    ·rw[St.get_app_same _ _ _ _ ht];exact v2 t ht
    ·rw[St.get_app_other _ _ _ _ ht];exact v1 t ht
   ·rw[St.H_app];exact hrel
   ·intro i hi
    have hi':σ.next+s.E.new.length≤i:=hi
    have:ν' i=ν i:=Classical.byContradiction fun hne=>by have:=hs.new i (hnew i hne);omega
    rw[this];exact hr.free i (by omega)
   ·intro i hi
    have hi':σ.next+s.E.new.length≤i:=hi
    rw[St.H_app,look_other _ _ _ (fun hm=>by have:=hs.touch hm;omega)]
    exact hr.fresh i (by omega)
   ·have:ν' i=ν i:=Classical.byContradiction fun hne=>by have:=hs.new i (hnew i hne);have:=hr.pin;omega
    exact this
theorem gw_region_text [Laid] {id:Nat} {σ:St} (hg:guardsOk ops nt=true) (h:GRun P ops nt (fun σ _=>Q .normal σ) ops.toList σ []):GW P nt p (.region id ops false) σ Q:=by
 intro ro ν F a w hr _
 refine wpIn_region ?_
 rw[List.range_eq_range',←Array.length_toList]
 exact run_text hg ops.toList σ [] 0 rfl h ν F a w hr (Evo.refl _ _ _ _) (Pin.refl _ _ _ _)
end seq
theorem foldl_bits (acc:Array Nat) (i:Nat):∀(l:List Edge) (s:Nat),(l.foldl (fun s e=>if Region.binds .any e then s|||2^e.on|||acc.getD e.on 0 else s) s).testBit i=true→
 s.testBit i=true∨∃e,e∈l∧Region.binds .any e=true∧(e.on=i∨(acc.getD e.on 0).testBit i=true):=by
 intro l
 induction l with
 |nil=>intro s h;exact .inl h
 |cons e l ih=>
  intro s h
  simp only[List.foldl_cons]at h
  rcases ih _ h with h1|⟨e',he',hb,hx⟩
  ·by_cases hb:Region.binds .any e=true
   ·rw[if_pos hb]at h1
    simp only[Nat.testBit_or,Bool.or_eq_true,Nat.testBit_two_pow]at h1
    rcases h1 with (h1|h1)|h1
    ·exact .inl h1
    ·exact .inr ⟨e,by simp,hb,.inl (by simpa using h1)⟩
    ·exact .inr ⟨e,by simp,hb,.inr h1⟩
   ·rw[if_neg hb]at h1;exact .inl h1
  ·exact .inr ⟨e',by simp[he'],hb,hx⟩
theorem before_aux:∀(l pre:List Oper) (acc:Array Nat),acc.size=pre.length→
 (∀j i,(acc.getD j 0).testBit i=true→∃o,pre[j]? =some o∧∃e,e∈o.after.toList∧Region.binds .any e=true∧(e.on=i∨(e.on<j∧(acc.getD e.on 0).testBit i=true)))→
 ∀j i,((l.foldl (fun acc (o:Oper)=>acc.push (o.after.foldl (fun s e=>if Region.binds .any e then s|||2^e.on|||acc.getD e.on 0 else s) 0)) acc).getD j 0).testBit i=true→
  ∃o,(pre++l)[j]? =some o∧∃e,e∈o.after.toList∧Region.binds .any e=true∧(e.on=i∨(e.on<j∧((l.foldl (fun acc (o:Oper)=>acc.push (o.after.foldl (fun s e=>if Region.binds .any e then s|||2^e.on|||acc.getD e.on 0 else s) 0)) acc).getD e.on 0).testBit i=true)):=by
 intro l
 induction l with
 |nil=>intro pre acc _ h;simpa using h
 |cons o l ih=>
  intro pre acc hs h j i hj
  simp only[List.foldl_cons]at hj⊢
  have:=ih (pre++ [o]) (acc.push (o.after.foldl (fun s e=>if Region.binds .any e then s|||2^e.on|||acc.getD e.on 0 else s) 0)) (by simp[hs]) (fun j i hb=> ?_) j i hj
  ·simpa using this
  ·have hpush:∀(x:Nat) (j:Nat),(acc.push x).getD j 0=if j=acc.size then x else acc.getD j 0:=fun x j=>by
    simp only[Array.getD_eq_getD_getElem?,Array.getElem?_push]
    split<;>simp_all
   rw[hpush]at hb
   by_cases hjs:j=acc.size
   ·rw[if_pos hjs]at hb
    refine ⟨o,by rw[hjs,hs];simp,?_⟩
    rw[←Array.foldl_toList]at hb
    rcases foldl_bits acc i _ _ hb with h1|⟨e,he,hbe,hx⟩
    ·simp at h1
    ·refine ⟨e,he,hbe,hx.imp id fun hx=> ?_⟩
     have hlt:e.on<acc.size:=by
      rcases Nat.lt_or_ge e.on acc.size with h|h
      ·exact h
      ·simp[Array.getD_eq_getD_getElem?,Array.getElem?_eq_none h]at hx
     exact ⟨by omega,by rw[hpush,if_neg (by omega)];exact hx⟩
   ·rw[if_neg hjs]at hb
    obtain ⟨o',ho',e,he,hbe,hx⟩:=h j i hb
    have hlt:j<pre.length:=(List.getElem?_eq_some_iff.1 ho').1
    refine ⟨o',by rw[List.getElem?_append_left hlt];exact ho',e,he,hbe,hx.imp id fun hx=>⟨hx.1,?_⟩⟩
    rw[hpush,if_neg (by omega)];exact hx.2
def bef (ops:Array Oper) (i j:Nat):Bool:=((Region.before ops).getD j 0).testBit i
theorem bef_spec {ops:Array Oper} {i j:Nat} (h:bef ops i j=true):∃o,ops[j]? =some o∧∃e,e∈o.after.toList∧Region.binds .any e=true∧(e.on=i∨(e.on<j∧bef ops i e.on=true)):=by
 have:=before_aux ops.toList [] #[] rfl (fun j i h=>by simp at h) j i (by
  unfold bef Region.before at h
  rw[←Array.foldl_toList]at h
  exact h)
 unfold bef Region.before
 rw[←Array.foldl_toList]
 simpa using this
end Go.Gh
namespace Go.Gh
open Go Go.RowKit
set_option linter.unusedVariables false
def disj (a b:List Nat):Bool:=a.all fun i=>b.all fun j=> !Nat.beq i j
theorem disj_spec {a b:List Nat} (h:disj a b=true) {i:Nat} (ha:i∈a):i∉b:=fun hb=>by
 simp only[disj,List.all_eq_true]at h
 have:=h i ha i hb
 rw[Nat.beq_refl]at this
 cases this
def footFree (x y:Foot):Bool:=disj x.tc y.fp&&disj x.tc y.tc&&disj y.tc x.fp
def pairOk (ops:Array Oper) (feet:List Foot) (i j:Nat):Bool:=
 bef ops i j||match ops[i]?,ops[j]?,feet[i]?,feet[j]? with
  |some x,some y,some fx,some fy=>x.apart ops y&&footFree fx fy
  |_,_,_,_=>false
def orderOk (ops:Array Oper) (feet:List Foot):Bool:=
 (List.range ops.size).all fun j=>(List.range j).all fun i=>pairOk ops feet i j
def edgesOk (ops:Array Oper):Bool:=
 (List.range ops.size).all fun j=>match ops[j]? with
  |some o=>o.after.all fun e=> !Region.binds .any e||decide (e.on<j)
  |none=>true
section
variable (ops:List Oper) (ss:Nat→Step) (σ:St)
def stAt (S:Nat→Bool):Nat→St
 |0=>σ
 |k+1=>match ops[k]? with
  |some o=>if S k then (stAt S k).app o (ss k)else stAt S k
  |none=>stAt S k
variable {ops ss σ}
theorem stAt_get {S S':Nat→Bool} {t:Nat} :∀(m:Nat),(∀k,k<m→∀o,ops[k]? =some o→o.dst=some t→S k=S' k)→(stAt ops ss σ S m).get t=(stAt ops ss σ S' m).get t:=by
 intro m
 induction m with
 |zero=>intro _;rfl
 |succ m ih=>
  intro h
  have ih':=ih fun k hk=>h k (by omega)
  simp only[stAt]
  cases ho:ops[m]? with
  |none=>exact ih'
  |some o=>
   simp only[]
   by_cases hd:o.dst=some t
   ·rw[h m (by omega) o ho hd]
    split
    ·rw[St.get_app_same _ _ _ _ hd,St.get_app_same _ _ _ _ hd]
    ·exact ih'
   ·have e1:∀(b:Bool) (τ:St),(if b=true then τ.app o (ss m)else τ).get t=τ.get t:=fun b τ=>by
     split
     ·exact St.get_app_other _ _ _ _ hd
     ·rfl
    rw[e1,e1];exact ih'
theorem stAt_H {S S':Nat→Bool} {i:Nat} :∀(m:Nat),(∀k,k<m→(ops[k]?).isSome=true→i∈touched (ss k).E→S k=S' k)→(stAt ops ss σ S m).H i=(stAt ops ss σ S' m).H i:=by
 intro m
 induction m with
 |zero=>intro _;rfl
 |succ m ih=>
  intro h
  have ih':=ih fun k hk=>h k (by omega)
  simp only[stAt]
  cases ho:ops[m]? with
  |none=>exact ih'
  |some o=>
   simp only[]
   by_cases hd:i∈touched (ss m).E
   ·rw[h m (by omega) (by simp[ho]) hd]
    split
    ·rw[St.H_app,St.H_app];exact look_mem _ _ _ _ hd
    ·exact ih'
   ·have e1:∀(b:Bool) (τ:St),(if b=true then τ.app o (ss m)else τ).H i=τ.H i:=fun b τ=>by
     split
     ·rw[St.H_app];exact look_other _ _ _ hd
     ·rfl
    rw[e1,e1];exact ih'
theorem stAt_val {S:Nat→Bool} {t k:Nat} {o:Oper} (ho:ops[k]? =some o) (hd:o.dst=some t) (hS:S k=true):∀(m:Nat),k<m→(∀j,k<j→j<m→∀o',ops[j]? =some o'→o'.dst=some t→S j=false)→(stAt ops ss σ S m).get t=(ss k).val:=by
 intro m
 induction m with
 |zero=>intro h;omega
 |succ m ih=>
  intro hk h
  simp only[stAt]
  rcases Nat.lt_or_ge k m with hlt|hge
  ·have ih':=ih hlt fun j h1 h2=>h j h1 (by omega)
   cases ho':ops[m]? with
   |none=>exact ih'
   |some o'=>
    simp only[]
    by_cases hd':o'.dst=some t
    ·rw[h m hlt (by omega) o' ho' hd'];exact ih'
    ·split
     ·rw[St.get_app_other _ _ _ _ hd'];exact ih'
     ·exact ih'
  ·obtain rfl:k=m:=by omega
   simp only[ho,hS,if_true]
   exact St.get_app_same _ _ _ _ hd
theorem stAt_blk {S:Nat→Bool} {i k:Nat} (ho:(ops[k]?).isSome=true) (hd:i∈touched (ss k).E) (hS:S k=true) (H:Hp):∀(m:Nat),k<m→(∀j,k<j→j<m→(ops[j]?).isSome=true→i∈touched (ss j).E→S j=false)→(stAt ops ss σ S m).H i=look (ss k).E.upd H i:=by
 intro m
 induction m with
 |zero=>intro h;omega
 |succ m ih=>
  intro hk h
  simp only[stAt]
  rcases Nat.lt_or_ge k m with hlt|hge
  ·have ih':=ih hlt fun j h1 h2=>h j h1 (by omega)
   cases ho':ops[m]? with
   |none=>exact ih'
   |some o'=>
    simp only[]
    by_cases hd':i∈touched (ss m).E
    ·rw[h m hlt (by omega) (by simp[ho']) hd'];exact ih'
    ·split
     ·rw[St.H_app,look_other _ _ _ hd'];exact ih'
     ·exact ih'
  ·obtain rfl:k=m:=by omega
   obtain ⟨o,ho⟩:=Option.isSome_iff_exists.1 ho
   simp only[ho,hS,if_true]
   rw[St.H_app];exact look_mem _ _ _ _ hd
end
theorem run_steps [Laid] {P:Program} {ops:Array Oper} {nt:Nat} {Q:St→List Foot→Prop} (σ0:St):
 ∀(rest:List Oper) (k:Nat) (ss:Nat→Step) (feet:List Foot),k≤ops.toList.length→ops.toList.drop k=rest→feet.length=k→(∀j,j<k→feet[j]? =some (footOf (ss j)))→
  (∀j,j<k→∀o,ops.toList[j]? =some o→SOK P ops nt (stAt ops.toList ss σ0 (fun _=>true) j) o (ss j))→
  GRun P ops nt Q rest (stAt ops.toList ss σ0 (fun _=>true) k) feet→
  ∃(ss:Nat→Step) (feet:List Foot),feet.length=ops.toList.length∧(∀j,j<ops.toList.length→feet[j]? =some (footOf (ss j)))∧
   (∀j,j<ops.toList.length→∀o,ops.toList[j]? =some o→SOK P ops nt (stAt ops.toList ss σ0 (fun _=>true) j) o (ss j))∧Q (stAt ops.toList ss σ0 (fun _=>true) ops.toList.length) feet:=by
 intro rest
 induction rest with
 |nil=>
  intro k ss feet hkn hk hl hf hs h
  cases h with
  |nil _ _ h=>
   have hge:ops.toList.length≤k:=List.drop_eq_nil_iff.1 hk
   obtain rfl:k=ops.toList.length:=by omega
   exact ⟨ss,feet,hl,hf,hs,h⟩
 |cons o rest ih=>
  intro k ss feet hkn hk hl hf hs h
  cases h with
  |cons _ _ _ _ s hs1 h=>
   have hlt:k<ops.toList.length:=by
    rcases Nat.lt_or_ge k ops.toList.length with h|h
    ·exact h
    ·rw[List.drop_eq_nil_of_le h]at hk;cases hk
   have hok:ops.toList[k]? =some o:=by
    have:=congrArg (·[0]?) hk
    simpa using this
   have hrest:ops.toList.drop (k+1)=rest:=by
    have:=congrArg List.tail hk
    simpa [List.tail_drop]using this
   let ss':Nat→Step:=fun j=>if j=k then s else ss j
   have hsame:∀m,m≤k→stAt ops.toList ss' σ0 (fun _=>true) m=stAt ops.toList ss σ0 (fun _=>true) m:=by
    intro m
    induction m with
    |zero=>intro _;rfl
    |succ m ihm=>
     intro hm
     have:=ihm (by omega)
     simp only[stAt,this]
     have e:ss' m=ss m:=by simp only[ss'];rw[if_neg (by omega)]
     rw[e]
   have hk':ss' k=s:=by simp[ss']
   refine ih (k+1) ss' (feet++ [footOf s]) (by omega) hrest (by simp[hl]) (fun j hj=> ?_) (fun j hj o' ho'=> ?_) ?_
   ·by_cases e:j=k
    ·subst e;rw[hk',List.getElem?_append_right (by omega),hl];simp
    ·rw[List.getElem?_append_left (by omega),hf j (by omega)]
     have:ss' j=ss j:=by simp only[ss'];rw[if_neg e]
     rw[this]
   ·rw[hsame j (by omega)]
    by_cases e:j=k
    ·subst e;rw[hk']
     rw[hok]at ho';injection ho' with ho';subst ho';exact hs1
    ·have:ss' j=ss j:=by simp only[ss'];rw[if_neg e]
     rw[this];exact hs j (by omega) o' ho'
   ·simp only[stAt,hok,if_true,hsame k (Nat.le_refl _),hk']
    exact h
theorem stAt_below {ops:List Oper} {ss:Nat→Step} {σ:St} (i:Nat):∀m,stAt ops ss σ (fun k=>decide (k<i)) m=stAt ops ss σ (fun _=>true) (min m i):=by
 intro m
 induction m with
 |zero=>simp[stAt]
 |succ m ih=>
  rcases Nat.lt_or_ge m i with h|h
  ·rw[show min (m+1) i=min m i+1 by omega]
   have hm:min m i=m:=by omega
   rw[hm]at ih⊢
   simp only[stAt,ih,decide_eq_true h]
  ·rw[show min (m+1) i=min m i by omega,←ih]
   simp only[stAt]
   have:decide (m<i)=false:=by simp;omega
   simp only[this]
   cases ops[m]? <;>rfl
theorem stAt_none {ops:List Oper} {ss:Nat→Step} {σ:St} :∀m,stAt ops ss σ (fun _=>false) m=σ:=by
 intro m
 induction m with
 |zero=>rfl
 |succ m ih=>simp only[stAt,ih];cases ops[m]? <;>rfl
section any
variable {P:Program} {ops:Array Oper} {nt p:Nat} {ss:Nat→Step} {feet:List Foot} {σ0:St}
structure Ran [Laid] (P:Program) (ops:Array Oper) (nt:Nat) (ss:Nat→Step) (feet:List Foot) (σ0:St):Prop where
 len:feet.length=ops.toList.length
 foot:∀j,j<ops.toList.length→feet[j]? =some (footOf (ss j))
 sok:∀j,j<ops.toList.length→∀o,ops.toList[j]? =some o→SOK P ops nt (stAt ops.toList ss σ0 (fun _=>true) j) o (ss j)
theorem Ran.next_mono [Laid] (h:Ran P ops nt ss feet σ0) {m:Nat} :∀d,(stAt ops.toList ss σ0 (fun _=>true) m).next≤(stAt ops.toList ss σ0 (fun _=>true) (m+d)).next:=by
 intro d
 induction d with
 |zero=>exact Nat.le_refl _
 |succ d ih=>
  refine Nat.le_trans ih ?_
  rw[show m+(d+1)=(m+d)+1 by omega]
  simp only[stAt]
  cases ops.toList[m+d]? with
  |none=>exact Nat.le_refl _
  |some o=>exact Nat.le_add_right _ _
theorem Ran.next_le [Laid] (h:Ran P ops nt ss feet σ0) {a b:Nat} (hab:a≤b):(stAt ops.toList ss σ0 (fun _=>true) a).next≤(stAt ops.toList ss σ0 (fun _=>true) b).next:=by
 have:=h.next_mono (m:=a) (b-a)
 rwa[show a+(b-a)=b by omega]at this
theorem Ran.next_succ [Laid] (h:Ran P ops nt ss feet σ0) {a:Nat} (ha:a<ops.toList.length):(stAt ops.toList ss σ0 (fun _=>true) (a+1)).next=(stAt ops.toList ss σ0 (fun _=>true) a).next+(ss a).E.new.length:=by
 simp only[stAt,List.getElem?_eq_getElem ha,if_true]
 rfl
theorem Ran.new_at [Laid] (h:Ran P ops nt ss feet σ0) {j i:Nat} (hj:j<ops.toList.length) (hi:i∈(ss j).E.new):σ0.next≤i∧(stAt ops.toList ss σ0 (fun _=>true) j).next≤i∧i<(stAt ops.toList ss σ0 (fun _=>true) (j+1)).next:=by
 have h1:=(h.sok j hj _ (List.getElem?_eq_getElem hj)).new i hi
 have h2:=h.next_le (Nat.zero_le j)
 have h3:=h.next_succ hj
 simp only[stAt]at h2
 omega
theorem Ran.touch_at [Laid] (h:Ran P ops nt ss feet σ0) {j i:Nat} (hj:j<ops.toList.length) (hi:i∈touched (ss j).E):i<(stAt ops.toList ss σ0 (fun _=>true) (j+1)).next:=by
 have h1:=(h.sok j hj _ (List.getElem?_eq_getElem hj)).touch hi
 have h3:=h.next_succ hj
 omega
theorem Ran.fresh [Laid] (h:Ran P ops nt ss feet σ0) (h0:∀i,σ0.next≤i→σ0.H i=none):∀m,m≤ops.toList.length→∀i,(stAt ops.toList ss σ0 (fun _=>true) m).next≤i→(stAt ops.toList ss σ0 (fun _=>true) m).H i=none:=by
 intro m
 induction m with
 |zero=>intro _;exact h0
 |succ m ih=>
  intro hm i hi
  have h3:=h.next_succ (a:=m) (by omega)
  have ht:i∉touched (ss m).E:=fun ht=>by have:=h.touch_at (by omega) ht;omega
  have e:stAt ops.toList ss σ0 (fun _=>true) (m+1)=(stAt ops.toList ss σ0 (fun _=>true) m).app (ops.toList[m]'(by omega)) (ss m):=by
   simp only[stAt,List.getElem?_eq_getElem (show m<ops.toList.length by omega),if_true]
  rw[e,St.H_app,look_other _ _ _ ht]
  exact ih (by omega) i (by omega)
theorem Ran.two [Laid] (h:Ran P ops nt ss feet σ0) (ho:orderOk ops feet=true) {i j:Nat} (hi:i<ops.toList.length) (hj:j<ops.toList.length) (hne:j≠i) {oi oj:Oper} (ei:ops[i]? =some oi) (ej:ops[j]? =some oj):
 (if j<i then bef ops j i=true else bef ops i j=true)∨((∀d,oj.dst=some d→d∉oi.looksAt ops∧oi.dst≠some d)∧(∀x,x∈touched (ss j).E→x∉(ss i).E.fp∧x∉touched (ss i).E)):=by
 simp only[orderOk,List.all_eq_true,List.mem_range]at ho
 have hl:ops.toList.length=ops.size:=by simp
 rcases Nat.lt_or_ge j i with hlt|hge
 ·have:=ho i (by omega) j hlt
  rw[if_pos hlt]
  simp only[pairOk,ei,ej,h.foot i hi,h.foot j hj,Bool.or_eq_true,Bool.and_eq_true,footFree]at this
  rcases this with h1|⟨h1,⟨h2,h3⟩,h4⟩
  ·exact .inl h1
  ·obtain ⟨a1,a2,a3⟩:=Oper.apart_spec h1
   exact .inr ⟨fun d hd=>⟨a1 d hd,a2 d hd⟩,fun x hx=>⟨disj_spec h2 hx,disj_spec h3 hx⟩⟩
 ·have:=ho j (by omega) i (by omega)
  rw[if_neg (by omega)]
  simp only[pairOk,ei,ej,h.foot i hi,h.foot j hj,Bool.or_eq_true,Bool.and_eq_true,footFree]at this
  rcases this with h1|⟨h1,⟨h2,h3⟩,h4⟩
  ·exact .inl h1
  ·obtain ⟨a1,a2,a3⟩:=Oper.apart_spec h1
   exact .inr ⟨fun d hd=>⟨a3 d hd,fun e=>a2 d e hd⟩,fun x hx=>⟨disj_spec h4 hx,fun hm=>disj_spec h3 hm hx⟩⟩
end any
def ClosedL (ops:Array Oper) (listed:Array Bool):Prop:=
 ∀j o,ops[j]? =some o→listed.getD j false=true→∀e,e∈o.after.toList→Region.binds .any e=true→listed.getD e.on false=true
theorem closed_bef {ops:Array Oper} {listed:Array Bool} (hc:ClosedL ops listed):∀(j i:Nat),bef ops i j=true→(∀o,ops[j]? =some o→∀e,e∈o.after.toList→Region.binds .any e=true→listed.getD e.on false=true)→listed.getD i false=true:=by
 intro j
 induction j using Nat.strongRecOn with
 |_ j ih=>
  intro i hb hj
  obtain ⟨o,ho,e,he,hbe,hx⟩:=bef_spec hb
  have h1:=hj o ho e he hbe
  rcases hx with hx|⟨hlt,hx⟩
  ·rw[←hx];exact h1
  ·refine ih e.on hlt i hx fun o' ho'=>hc e.on o' ho' h1
section main
variable {P:Program} {ops:Array Oper} {nt p:Nat} {ss:Nat→Step} {feet:List Foot} {σ0:St} {Q:Exit→St→Prop}
def setOf (listed:Array Bool):Nat→Bool:=fun k=>listed.getD k false
theorem getD_set {listed:Array Bool} {i k:Nat} {b:Bool} (hi:i<listed.size):(listed.setIfInBounds i true).getD k b=if k=i then true else listed.getD k b:=by
 by_cases h:k=i
 ·subst h;simp[hi]
 ·rw[if_neg h];simp[Array.getD_eq_getD_getElem?,Array.getElem?_setIfInBounds_ne (Ne.symm h)]
theorem getD_ff {listed:Array Bool} {k:Nat} (h:k<listed.size):listed.getD k true=listed.getD k false:=by simp[Array.getD,h]
theorem count_pos {n:Nat} {f:Nat→Bool} (h:0<(List.range n).countP f):∃i,i<n∧f i=true∧∀j,j<i→f j=false:=by
 induction n with
 |zero=>simp at h
 |succ n ih=>
  rw[List.range_succ,List.countP_append]at h
  by_cases h':0<(List.range n).countP f
  ·obtain ⟨i,h1,h2,h3⟩:=ih h'
   exact ⟨i,by omega,h2,h3⟩
  ·have hz:(List.range n).countP f=0:=by omega
   rw[List.countP_eq_zero]at hz
   refine ⟨n,by omega,?_,fun j hj=> ?_⟩
   ·cases hf:f n with
    |true=>rfl
    |false=>
     have e:(if f n=true then 1 else 0)=0:=by rw[hf];rfl
     rw[List.countP_singleton,e,Nat.add_zero]at h
     exact absurd h h'
   ·cases hf:f j with
    |true=>exact absurd hf (hz j (by simpa using hj))
    |false=>rfl
theorem count_drop {n i:Nat} {f g:Nat→Bool} (hi:i<n) (hf:f i=true) (hg:∀k,g k=if k=i then false else f k):(List.range n).countP f=(List.range n).countP g+1:=by
 induction n with
 |zero=>omega
 |succ n ih=>
  rw[List.range_succ,List.countP_append,List.countP_append,List.countP_singleton,List.countP_singleton]
  by_cases h:i=n
  ·subst h
   have e:(List.range i).countP f=(List.range i).countP g:=List.countP_congr fun x hx=>by
    have:x<i:=by simpa using hx
    rw[hg x,if_neg (by omega)]
   rw[e,hf,hg i,if_pos rfl];simp
  ·have e:g n=f n:=by rw[hg n,if_neg (by omega)]
   rw[ih (by omega),e];omega
theorem run_any [Laid] (hg:guardsOk ops nt=true) (hran:Ran P ops nt ss feet σ0) (hord:orderOk ops feet=true) (hedge:edgesOk ops=true)
 (hq:Q .normal (stAt ops.toList ss σ0 (fun _=>true) ops.toList.length)) {ν0:Nu} {F0:Fz} {w0:World} {l0:List Deferred} {ro:Option Nat} (pin0:p≤σ0.next) (fresh0:∀i,σ0.next≤i→σ0.H i=none):
 ∀(fuel:Nat) (listed:Array Bool) (a:Act) (w:World) (ν:Nu) (F:Fz),listed.size=ops.size→ClosedL ops listed→(List.range ops.size).countP (fun k=> !listed.getD k false)=fuel→
  (∀t,VR ν F w ((stAt ops.toList ss σ0 (setOf listed) ops.toList.length).get t) (a.tmps.getD t undef))→Rel ν F w (stAt ops.toList ss σ0 (setOf listed) ops.toList.length).H→
  Marks a.defers w→a.tmps.size=nt→(∀i,(stAt ops.toList ss σ0 (fun _=>true) ops.toList.length).next≤i→ν i=none)→
  (∀k,k<ops.size→listed.getD k false=false→∀i,i∈(ss k).E.new→ν i=none)→a.defers=l0→
  Evo ν0 F0 w0 σ0.H ν F w (stAt ops.toList ss σ0 (setOf listed) ops.toList.length).H→Pin p ν0 ν l0 a.defers w0.heap.size→
  wpAnyIn (rnd ro) 0 P .any ops (fun e a w=>GPost nt p ν0 F0 l0 w0 σ0.H Q e a w∧a.defers=l0) fuel listed a w:=by
 have hlen:ops.toList.length=ops.size:=by simp
 intro fuel
 induction fuel with
 |zero=>
  intro listed a w ν F hsz hcl hcount vals rel defers size free newfree hdl evo pin
  rw[List.countP_eq_zero]at hcount
  have hall:∀k,k<ops.toList.length→setOf listed k=true:=fun k hk=>by
   have:=hcount k (by simp;omega)
   simpa [setOf]using this
  refine ⟨?_,?_⟩
  ·cases hr:Region.ready .any ops listed with
   |nil=>rfl
   |cons i l=>
    have hm:i∈Region.ready .any ops listed:=by rw[hr];simp
    obtain ⟨hl,o,ho,_⟩:=mem_ready.1 hm
    have hi:i<ops.size:=(Array.getElem?_eq_some_iff.1 ho).1
    have:=hall i (by omega)
    rw[getD_ff (by omega)]at hl
    simp only[setOf]at this
    rw[this]at hl;cases hl
  ·have eg:∀t,(stAt ops.toList ss σ0 (setOf listed) ops.toList.length).get t=(stAt ops.toList ss σ0 (fun _=>true) ops.toList.length).get t:=fun t=>stAt_get _ fun k hk _ _ _=>hall k hk
   have eH:(stAt ops.toList ss σ0 (setOf listed) ops.toList.length).H=(stAt ops.toList ss σ0 (fun _=>true) ops.toList.length).H:=funext fun i=>stAt_H _ fun k hk _ _=>hall k hk
   rw[eH]at rel evo
   refine ⟨⟨_,ν,F,hq,⟨?_,fun t=>by rw[←eg];exact vals t,rel,defers,free,size,hran.fresh fresh0 _ (Nat.le_refl _)⟩,evo,pin⟩,hdl⟩
   exact Nat.le_trans pin0 (hran.next_le (Nat.zero_le _))
 |succ fuel ih=>
  intro listed a w ν F hsz hcl hcount vals rel defers size free newfree hdl evo pin
  refine ⟨fun hr=> ?_,fun i hi=> ?_⟩
  ·exfalso
   obtain ⟨i,h1,h2,h3⟩:=count_pos (n:=ops.size) (f:=fun k=> !listed.getD k false) (by omega)
   have hm:i∈Region.ready .any ops listed:=by
    rw[mem_ready]
    refine ⟨?_,ops[i],by simp[h1],fun e he hb=> ?_⟩
    ·rw[getD_ff (by omega)];simpa using h2
    ·simp only[edgesOk,List.all_eq_true,List.mem_range]at hedge
     have:=hedge i h1
     simp only[Array.getElem?_eq_getElem h1]at this
     have:=(Array.all_eq_true_iff_forall_mem.1 this) e he
     rw[hb]at this
     simp at this
     have:=h3 e.on this
     simpa using this
   rw[hr]at hm;cases hm
  ·obtain ⟨hun,o,ho,hall⟩:=mem_ready.1 hi
   have hin:i<ops.size:=(Array.getElem?_eq_some_iff.1 ho).1
   have hil:i<ops.toList.length:=by omega
   have hol:ops.toList[i]? =some o:=by simpa using ho
   rw[getD_ff (by omega)]at hun
   have hs:=hran.sok i hil o hol
   have hall':∀o',ops[i]? =some o'→∀e,e∈o'.after.toList→Region.binds .any e=true→listed.getD e.on false=true:=fun o' ho' e he hb=>by
    rw[ho]at ho';injection ho' with ho';subst ho';exact hall e (by simpa using he) hb
   have hord2:∀j oj,j≠i→ops[j]? =some oj→setOf listed j=decide (j<i)∨((∀d,oj.dst=some d→d∉o.looksAt ops∧o.dst≠some d)∧(∀x,x∈touched (ss j).E→x∉(ss i).E.fp∧x∉touched (ss i).E)):=fun j oj hne hj=>by
    have hjn:j<ops.size:=(Array.getElem?_eq_some_iff.1 hj).1
    rcases hran.two hord hil (by omega) hne ho hj with h1|h1
    ·left
     by_cases hlt:j<i
     ·rw[if_pos hlt]at h1
      simp only[setOf,decide_eq_true hlt]
      exact closed_bef hcl i j h1 hall'
     ·rw[if_neg hlt]at h1
      simp only[setOf,decide_eq_false hlt]
      cases hb:listed.getD j false with
      |false=>rfl
      |true=>
       have:=closed_bef hcl j i h1 (fun o' ho'=>hcl j o' ho' hb)
       rw[hun]at this;cases this
    ·exact .inr h1
   have hbelow:stAt ops.toList ss σ0 (fun _=>true) i=stAt ops.toList ss σ0 (fun k=>decide (k<i)) ops.toList.length:=by
    rw[stAt_below,show min ops.toList.length i=i by omega]
   unfold wpOpIn
   simp only[ho]
   refine step_sound hs (τ:=stAt ops.toList ss σ0 (setOf listed) ops.toList.length) (fun t ht=> ?_) (fun x hx=> ?_) (fun x hx=> ?_) vals rel defers (fun x hx=>newfree i hin hun x hx) size (fun j want d _ hd=>guardsOk_spec hg hd) ?_
   ·rw[hbelow]
    refine stAt_get _ fun k hk ok hok hd=> ?_
    by_cases hki:k=i
    ·subst hki;simp[setOf,hun]
    ·rcases hord2 k ok hki (by simpa using hok)with h1|h1
     ·exact h1
     ·exact absurd ht (h1.1 t hd).1
   ·rw[hbelow]
    refine stAt_H _ fun k hk hok hd=> ?_
    by_cases hki:k=i
    ·subst hki;simp[setOf,hun]
    ·obtain ⟨ok,hok⟩:=Option.isSome_iff_exists.1 hok
     rcases hord2 k ok hki (by simpa using hok)with h1|h1
     ·exact h1
     ·exact absurd hx (h1.2 x hd).1
   ·rw[stAt_H (S':=fun _=>false) _ (fun k hk hok hd=> ?_),stAt_none]
    ·exact fresh0 x (hran.new_at hil hx).1
    ·by_cases hki:k=i
     ·subst hki;simp[setOf,hun]
     ·obtain ⟨ok,hok⟩:=Option.isSome_iff_exists.1 hok
      have ht:=hran.touch_at (by omega) hd
      have hn:=(hran.new_at hil hx).2.1
      rcases Nat.lt_or_ge k i with hlt|hge
      ·have:=hran.next_le (show k+1≤i by omega);omega
      ·rcases hord2 k ok hki (by simpa using hok)with h1|h1
       ·rw[h1];simp;omega
       ·exact absurd (hs.newt x hx) (h1.2 x hd).2
   ·intro a' w' ν' F' v1 v2 hrel hdd hdef hnew hsize' hev
    have hS':∀k,setOf (listed.setIfInBounds i true) k=if k=i then true else setOf listed k:=fun k=>getD_set (by omega)
    have eH:(stAt ops.toList ss σ0 (setOf (listed.setIfInBounds i true)) ops.toList.length).H=look (ss i).E.upd (stAt ops.toList ss σ0 (setOf listed) ops.toList.length).H:=by
     funext x
     by_cases hx:x∈touched (ss i).E
     ·refine stAt_blk (k:=i) (by simp[hol]) hx (by rw[hS',if_pos rfl]) _ _ hil fun j h1 h2 hoj hd=> ?_
      obtain ⟨oj,hoj⟩:=Option.isSome_iff_exists.1 hoj
      rw[hS',if_neg (by omega)]
      rcases hord2 j oj (by omega) (by simpa using hoj)with h|h
      ·rw[h];simp;omega
      ·exact absurd hx (h.2 x hd).2
     ·rw[look_other _ _ _ hx]
      refine stAt_H _ fun k hk hok hd=> ?_
      rw[hS']
      by_cases hki:k=i
      ·subst hki;exact absurd hd hx
      ·rw[if_neg hki]
    refine ih (listed.setIfInBounds i true) a' w' ν' F' (by simp[hsz]) ?_ ?_ ?_ (by rw[eH];exact hrel) hdef hsize' ?_ ?_ (hdd.trans hdl) (by rw[eH];exact evo.trans hev) (pin.trans (Pin.of w.heap.size hdd fun x hx=> ?_) evo.size)
    ·intro j oj hoj hj e he hb
     rw[getD_set (by omega)]at hj⊢
     by_cases hji:j=i
     ·subst hji
      split
      ·rfl
      ·exact hall' oj hoj e he hb
     ·rw[if_neg hji]at hj
      split
      ·rfl
      ·exact hcl j oj hoj hj e he hb
    ·have:=count_drop (n:=ops.size) (i:=i) (f:=fun k=> !listed.getD k false) (g:=fun k=> !(listed.setIfInBounds i true).getD k false) hin (by simp[hun]) (fun k=>by
      rw[getD_set (by omega)]
      split<;>simp)
     omega
    ·intro t
     by_cases ht:o.dst=some t
     ·rw[stAt_val hol ht (by rw[hS',if_pos rfl]) _ hil fun j h1 h2 oj hoj hd=> ?_]
      ·exact v2 t ht
      ·rw[hS',if_neg (by omega)]
       rcases hord2 j oj (by omega) (by simpa using hoj)with h|h
       ·rw[h];simp;omega
       ·exact absurd ht (h.1 t hd).2
     ·rw[stAt_get (S':=setOf listed) _ fun k hk ok hok hd=> ?_]
      ·exact v1 t ht
      ·rw[hS']
       by_cases hki:k=i
       ·subst hki;rw[hol]at hok;injection hok with hok;subst hok;exact absurd hd ht
       ·rw[if_neg hki]
    ·intro x hx
     have:ν' x=ν x:=Classical.byContradiction fun hne=>by
      have h1:=(hran.new_at hil (hnew x hne)).2.2
      have h2:=hran.next_le (show i+1≤ops.toList.length by omega)
      omega
     rw[this];exact free x hx
    ·intro k hk hlk x hx
     rw[getD_set (by omega)]at hlk
     by_cases hki:k=i
     ·rw[if_pos hki]at hlk;cases hlk
     ·rw[if_neg hki]at hlk
      have:ν' x=ν x:=Classical.byContradiction fun hne=>by
       have h1:=hran.new_at hil (hnew x hne)
       have h2:=hran.new_at (show k<ops.toList.length by omega) hx
       rcases Nat.lt_or_ge k i with h|h
       ·have:=hran.next_le (show k+1≤i by omega);omega
       ·have:=hran.next_le (show i+1≤k by omega);omega
      rw[this];exact newfree k hk hlk x hx
    ·have:ν' x=ν x:=Classical.byContradiction fun hne=>by
      have h1:=hran.new_at hil (hnew x hne)
      omega
     exact this
theorem gw_region_anyD [Laid] {id:Nat} {σ:St} (hm:P.follows .mixedOrders=true) (hg:guardsOk ops nt=true) (hedge:edgesOk ops=true)
 (h:GRun P ops nt (fun σ' feet=>orderOk ops feet=true∧Q .normal σ') ops.toList σ []) (ro:Option Nat) (ν:Nu) (F:Fz) (a:Act) (w:World) (hr:RS σ ν F a w nt p):
 (Code.region id ops true).wpIn (rnd ro) 0 P (fun e a' w'=>GPost nt p ν F a.defers w σ.H Q e a' w'∧a'.defers=a.defers) a w:=by
 obtain ⟨ss,feet,hl,hf,hs,hord,hq⟩:=run_steps σ ops.toList 0 (fun _=>⟨true,fun _=> .junk, {g:= .junk},.junk⟩) [] (Nat.zero_le _) rfl rfl (fun j h=>by omega) (fun j h=>by omega) h
 refine wpIn_region_any hm ?_
 have e0:∀m,stAt ops.toList ss σ (setOf (Array.replicate ops.size false)) m=σ:=fun m=>by
  have:setOf (Array.replicate ops.size false)=fun _=>false:=by
   funext k
   simp only[setOf,Array.getD_eq_getD_getElem?,Array.getElem?_replicate]
   split<;>rfl
  rw[this];exact stAt_none m
 refine run_any hg ⟨hl,hf,hs⟩ hord hedge hq hr.pin hr.fresh ops.size (Array.replicate ops.size false) a w.drew ν F (by simp) ?_ ?_ ?_ ?_ hr.defers hr.size ?_ ?_ rfl ?_ (Pin.refl _ _ _ _)
 ·intro j o _ hj
  simp[Array.getD_eq_getD_getElem?,Array.getElem?_replicate]at hj
  split at hj<;>simp at hj
 ·rw[List.countP_eq_length.2]
  ·simp
  ·intro k hk
   simp[Array.getD_eq_getD_getElem?,Array.getElem?_replicate]
   split<;>simp
 ·intro t;rw[e0];exact (hr.vals t).keep (Keep.drew F w) (More.refl _)
 ·rw[e0];exact hr.rel.drew
 ·intro i hi
  refine hr.free i (Nat.le_trans ?_ hi)
  exact Ran.next_le (P:=P) (nt:=nt) (feet:=feet) ⟨hl,hf,hs⟩ (Nat.zero_le _)
 ·intro k hk _ i hi
  exact hr.free i (Ran.new_at (P:=P) (nt:=nt) (feet:=feet) ⟨hl,hf,hs⟩ (by simpa using hk) hi).1
 ·rw[e0];exact Evo.drew (Evo.refl _ _ _ _)
theorem gw_region_any [Laid] {id:Nat} {σ:St} (hm:P.follows .mixedOrders=true) (hg:guardsOk ops nt=true) (hedge:edgesOk ops=true)
 (h:GRun P ops nt (fun σ' feet=>orderOk ops feet=true∧Q .normal σ') ops.toList σ []):GW P nt p (.region id ops true) σ Q:=by
 intro ro ν F a w hr _
 exact wpIn_mono (gw_region_anyD hm hg hedge h ro ν F a w hr) fun _ _ _ h=>h.1
end main
end Go.Gh
namespace Go.Gh
open Go Go.RowKit
set_option linter.unusedVariables false
mutual
def G.ren (ρ:Nat→Nat):G→G
 | .d x=> .d x
 | .ptr b es i f=> .ptr (ρ b) es i f
 | .sl b es i n=> .sl (ρ b) es i n
 | .ep cs=> .ep cs
 | .fn f a b=> .fn f (G.renL ρ a) (G.renL ρ b)
 | .agg cs=> .agg (G.renL ρ cs)
 | .tup vs=> .tup (G.renL ρ vs)
 | .iface t g=> .iface t (G.ren ρ g)
 | .mp b=> .mp (ρ b)
 | .opt c g=> .opt c (G.ren ρ g)
 | .ex v g=> .ex v (G.ren ρ g)
 | .junk=> .junk
def G.renL (ρ:Nat→Nat):List G→List G
 | []=>[]
 |g::l=>G.ren ρ g::G.renL ρ l
end
mutual
def G.lt (n:Nat):G→Bool
 | .d _=>true
 | .ptr b _ _ _=>Nat.ble (b+1) n
 | .sl b _ _ _=>Nat.ble (b+1) n
 | .ep _=>true
 | .fn _ a b=>G.ltL n a&&G.ltL n b
 | .agg cs=>G.ltL n cs
 | .tup vs=>G.ltL n vs
 | .iface _ g=>G.lt n g
 | .mp b=>Nat.ble (b+1) n
 | .opt _ g=>G.lt n g
 | .ex _ g=>G.lt n g
 | .junk=>true
def G.ltL (n:Nat):List G→Bool
 | []=>true
 |g::l=>G.lt n g&&G.ltL n l
end
theorem renL_map (ρ:Nat→Nat):∀l,G.renL ρ l=l.map (G.ren ρ):=by
 intro l
 induction l with
 |nil=>rfl
 |cons g l ih=>simp only[G.renL,ih,List.map_cons]
theorem ltL_all (n:Nat):∀l,G.ltL n l=l.all (G.lt n):=by
 intro l
 induction l with
 |nil=>rfl
 |cons g l ih=>simp only[G.ltL,ih,List.all_cons]
def cutNu (n:Nat) (ρ:Nat→Nat) (ν:Nu):Nu:=fun i=>if i<n then ν (ρ i)else none
theorem VR.ren {ν:Nu} {F:Fz} {w:World} {ρ:Nat→Nat} {n:Nat} {g0:G} {v:Value} (h:VR ν F w g0 v):∀g,g0=g.ren ρ→g.lt n=true→VR (cutNu n ρ ν) F w g v:=by
 have key:∀b,Nat.ble (b+1) n=true→cutNu n ρ ν b=ν (ρ b):=fun b hb=>if_pos (Nat.le_of_ble_eq_true hb)
 induction h with
 |d h=>intro g e _;cases g<;>simp only[G.ren]at e<;>first|cases e|skip
       exact .d h
 |ptr b es i f r k h=>
  intro g e hl;cases g<;>simp only[G.ren]at e<;>first|cases e|skip
  rename_i b'
  exact .ptr _ _ _ _ _ k (by rw[key _ hl];exact h)
 |mp b r k h=>
  intro g e hl;cases g<;>simp only[G.ren]at e<;>first|cases e|skip
  rename_i b'
  exact .mp _ _ k (by rw[key _ hl];exact h)
 |sl b es i n' A c h1 h2 h3 h4=>
  intro g e hl;cases g<;>simp only[G.ren]at e<;>first|cases e|skip
  refine .sl _ _ _ _ _ _ ?_ ?_ h3 ?_<;>rw[key _ hl]<;>assumption
 |ep cells b off val hw hF h=>intro g e _;cases g<;>simp only[G.ren]at e<;>first|cases e|skip
                              exact .ep _ _ _ _ hw hF h
 |fn f first captured fs cs h1 h2 _ _ i1 i2=>
  intro g e hl;cases g<;>simp only[G.ren]at e<;>first|cases e|skip
  rename_i a b _
  simp only[renL_map]at h1 h2 i1 i2
  simp only[G.lt,ltL_all,Bool.and_eq_true,List.all_eq_true]at hl
  refine .fn _ _ _ _ _ (by rw[h1];simp) (by rw[h2];simp) (fun j g u hg hu=> ?_) (fun j g u hg hu=> ?_)
  ·exact i1 j (g.ren ρ) u (by rw[List.getElem?_map,hg];rfl) hu g rfl (hl.1 g (List.mem_of_getElem? hg))
  ·exact i2 j (g.ren ρ) u (by rw[List.getElem?_map,hg];rfl) hu g rfl (hl.2 g (List.mem_of_getElem? hg))
 |agg cells cs h1 hc _ ih=>
  intro g e hl;cases g<;>simp only[G.ren]at e<;>first|cases e|skip
  simp only[renL_map]at h1 ih
  simp only[G.lt,ltL_all,List.all_eq_true]at hl
  refine .agg _ _ (by rw[h1];simp) hc (fun j g u hg hu=> ?_)
  exact ih j (g.ren ρ) u (by rw[List.getElem?_map,hg];rfl) hu g rfl (hl g (List.mem_of_getElem? hg))
 |tup vs us h1 _ ih=>
  intro g e hl;cases g<;>simp only[G.ren]at e<;>first|cases e|skip
  simp only[renL_map]at h1 ih
  simp only[G.lt,ltL_all,List.all_eq_true]at hl
  refine .tup _ _ (by rw[h1];simp) (fun j g u hg hu=> ?_)
  exact ih j (g.ren ρ) u (by rw[List.getElem?_map,hg];rfl) hu g rfl (hl g (List.mem_of_getElem? hg))
 |iface t g u _ ih=>
  intro g e hl;cases g<;>simp only[G.ren]at e<;>first|cases e|skip
  exact .iface _ _ _ (ih _ rfl hl)
 |opt c g u _ h0 ih=>
  intro g e hl;cases g<;>simp only[G.ren]at e<;>first|cases e|skip
  exact .opt _ _ _ (fun hc=>ih hc _ rfl hl) h0
 |ex v g _ ih=>
  intro g e hl;cases g<;>simp only[G.ren]at e<;>first|cases e|skip
  exact .ex _ _ (ih _ rfl hl)
 |junk u=>intro g e _;cases g<;>simp only[G.ren]at e<;>first|cases e|skip
          exact .junk _
def Exit.thenS (next:St→Prop) (Q:Exit→St→Prop):Exit→St→Prop
 | .normal,σ=>next σ
 |e,σ=>Q e σ
def Exit.blockS (id:Nat) (Q:Exit→St→Prop):Exit→St→Prop
 | .exit id',σ=>if id'=id then Q .normal σ else Q (.exit id') σ
 |e,σ=>Q e σ
section rules
variable {P:Program} {nt p:Nat} {σ:St} {Q:Exit→St→Prop}
theorem GPost.from [Laid] {ν ν1:Nu} {F F1:Fz} {w w1:World} {H:Hp} {σ1:St} {a1:Act} {c:Code} {Q':Exit→Act→World→Prop} {ro:Option Nat} (h:GW P nt p c σ1 Q) {l:List Deferred} (hr:RS σ1 ν1 F1 a1 w1 nt p) (hl:Lives ro w1) (he:Evo ν F w H ν1 F1 w1 σ1.H) (hp:Pin p ν ν1 l a1.defers w.heap.size)
 (hq:∀e a w',GPost nt p ν F l w H Q e a w'→Q' e a w'):c.wpIn (rnd ro) 0 P Q' a1 w1:=
 wpIn_mono (h ro ν1 F1 a1 w1 hr hl) fun e a2 w2 ⟨σ2,ν2,F2,q,r,e2,p2⟩=>hq _ _ _ ⟨σ2,ν2,F2,q,r,he.trans e2,hp.trans p2 he.size⟩
theorem gw_mono [Laid] {c:Code} {Q':Exit→St→Prop} (h:GW P nt p c σ Q) (hq:∀e σ,Q e σ→Q' e σ):GW P nt p c σ Q':=
 fun ro ν F a w hr hl=>wpIn_mono (h ro ν F a w hr hl) fun _ _ _ ⟨σ',ν',F',q,r⟩=>⟨σ',ν',F',hq _ _ q,r⟩
theorem gw_skip [Laid] (h:Q .normal σ):GW P nt p .skip σ Q:=fun ro ν F a w hr _=>wpIn_skip ⟨σ,ν,F,h,hr,Evo.refl _ _ _ _,Pin.refl _ _ _ _⟩
theorem gw_exit [Laid] {id:Nat} (h:Q (.exit id) σ):GW P nt p (.exit id) σ Q:=fun ro ν F a w hr _=>wpIn_exit ⟨σ,ν,F,h,hr,Evo.refl _ _ _ _,Pin.refl _ _ _ _⟩
theorem gw_ret [Laid] (h:Q .ret σ):GW P nt p .ret σ Q:=fun ro ν F a w hr _=>wpIn_ret ⟨σ,ν,F,h,hr,Evo.refl _ _ _ _,Pin.refl _ _ _ _⟩
theorem gw_label [Laid] {l:Nat} (h:Q .normal σ):GW P nt p (.label l) σ Q:=fun ro ν F a w hr _=>wpIn_label ⟨σ,ν,F,h,hr,Evo.refl _ _ _ _,Pin.refl _ _ _ _⟩
theorem gw_seq [Laid] {x y:Code} (h:GW P nt p x σ (Exit.thenS (fun σ'=>GW P nt p y σ' Q) Q)):GW P nt p (.seq x y) σ Q:=by
 intro ro ν F a w hr hl
 refine wpIn_seq (wpIn_mono (h ro ν F a w hr hl) fun e a1 w1 ⟨σ1,ν1,F1,q,r1,e1,p1⟩=> ?_)
 cases e with
 |normal=>exact GPost.from q r1 (hl.evo hr.rel e1) e1 p1 (fun _ _ _ h=>h)
 |exit id=>exact ⟨σ1,ν1,F1,q,r1,e1,p1⟩
 |goto l=>exact ⟨σ1,ν1,F1,q,r1,e1,p1⟩
 |ret=>exact ⟨σ1,ν1,F1,q,r1,e1,p1⟩
 |panic ch=>exact ⟨σ1,ν1,F1,q,r1,e1,p1⟩
 |outgrown=>exact ⟨σ1,ν1,F1,q,r1,e1,p1⟩
theorem gw_block [Laid] {id:Nat} {c:Code} (h:GW P nt p c σ (Exit.blockS id Q)):GW P nt p (.block id c) σ Q:=by
 intro ro ν F a w hr hl
 refine wpIn_block (wpIn_mono (h ro ν F a w hr hl) fun e a1 w1 ⟨σ1,ν1,F1,q,r1,e1,p1⟩=> ?_)
 cases e with
 |exit id'=>
  simp only[Exit.inBlock,Exit.blockS]at*
  split
  ·rename_i he;rw[if_pos he]at q;exact ⟨σ1,ν1,F1,q,r1,e1,p1⟩
  ·rename_i he;rw[if_neg he]at q;exact ⟨σ1,ν1,F1,q,r1,e1,p1⟩
 |normal=>exact ⟨σ1,ν1,F1,q,r1,e1,p1⟩
 |goto l=>exact ⟨σ1,ν1,F1,q,r1,e1,p1⟩
 |ret=>exact ⟨σ1,ν1,F1,q,r1,e1,p1⟩
 |panic ch=>exact ⟨σ1,ν1,F1,q,r1,e1,p1⟩
 |outgrown=>exact ⟨σ1,ν1,F1,q,r1,e1,p1⟩
theorem VR.bool {ν:Nu} {F:Fz} {w:World} {b:Bool} {v:Value} (h:VR ν F w (.d (.sc (.bool b))) v):v= .bool b:=by
 cases h with
 |d h=>cases h with
  |sc v h=>rfl
theorem gw_cond [Laid] {c:Operand} {x y:Code} {b:Bool} (hc:σ.ev c= .d (.sc (.bool b))) (h1:b=true→GW P nt p x σ Q) (h2:b=false→GW P nt p y σ Q):GW P nt p (.cond c x y) σ Q:=by
 intro ro ν F a w hr hl
 have hv:=ev_sound hr.rel.glob hr.vals c
 rw[hc]at hv
 exact wpIn_cond_split hv.bool (fun e=>h1 e ro ν F a w hr hl) (fun e=>h2 e ro ν F a w hr hl)
theorem least {Good:Nat→Prop} (h:∃n,Good n):∃n,Good n∧∀k,Good k→n≤k:=by
 obtain ⟨n,hn⟩:=h
 induction n using Nat.strongRecOn with
 |_ n ih=>
  by_cases hk:∃k,k<n∧Good k
  ·obtain ⟨k,hk,hg⟩:=hk;exact ih k hk hg
  ·exact ⟨n,hn,fun k hg=>by
    rcases Nat.lt_or_ge k n with h1|h1
    ·exact absurd ⟨k,h1,hg⟩ hk
    ·exact h1⟩
end rules
end Go.Gh
namespace Go.Gh
open Go Go.RowKit
set_option linter.unusedVariables false
def Ent (g g':G):Prop:=∀(ν:Nu) (F:Fz) (w:World) (v:Value),VR ν F w g v→VR ν F w g' v
theorem Ent.refl (g:G):Ent g g:=fun _ _ _ _ h=>h
theorem Ent.junk (g:G):Ent g .junk:=fun _ _ _ _ _=> .junk _
def frzF (F:Fz) (r n:Nat):Fz:=fun b o=>F b o∨(b=r∧o<n)
theorem blk_idx {es n i j:Nat} (hi:i<n) (hj:j<es):i*es+j<n*es:=by
 have:(i+1)*es≤n*es:=Nat.mul_le_mul_right es hi
 rw[Nat.succ_mul]at this;omega
theorem Rel.freeze [Laid] {ν:Nu} {F:Fz} {w:World} {H:Hp} (h:Rel ν F w H) {b ty es:Nat} {α:Type} {df:α} {cells:α→List D} {xs:List α} {fz:Nat} (hb:H b=some (.row ty es df cells xs fz)):
 ∃F':Fz,Rel ν F' w (look [(b,some (.row ty es df cells xs xs.length))] H)∧Keep F w F' w∧Evo ν F w H ν F' w (look [(b,some (.row ty es df cells xs xs.length))] H)∧
  (∀r k,ν b=some (r,k)→∀o,o<xs.length*es→F' r o):=by
 rcases h.blk b _ hb with ⟨h1,h2,h3⟩|⟨r,k,arr,e,h1,h1',h2,h3,h4,h5,h6,h7,h8⟩
 ·subst h2;subst h3
  have hk:look [(b,some (.row ty es df cells [] 0))] H=H:=funext fun i=>by
   simp only[look]
   cases e:Nat.beq i b with
   |false=>rfl
   |true=>rw[Nat.eq_of_beq_eq_true e];exact hb.symm
  refine ⟨F,?_,Keep.refl _ _,?_,fun r k e=>by rw[h1]at e;cases e⟩
  ·show Rel ν F w (look [(b,some (.row ty es df cells [] 0))] H);rw[hk];exact h
  ·show Evo ν F w H ν F w (look [(b,some (.row ty es df cells [] 0))] H);rw[hk];exact Evo.refl _ _ _ _
 ·have hsome:∀i,(look [(b,some (Blk.row ty es df cells xs xs.length))] H i).isSome=(H i).isSome:=fun i=>by
   simp only[look]
   cases e:Nat.beq i b with
   |false=>rfl
   |true=>rw[Nat.eq_of_beq_eq_true e,hb];rfl
  have hkeep:Keep F w (frzF F r (xs.length*es)) w:=⟨fun _ _ h=> .inl h,fun _ _ _=>rfl,fun _ _ _=>rfl⟩
  refine ⟨frzF F r (xs.length*es),⟨fun i j r k k' a b=> ?_,fun i bl hi=> ?_,fun b' o ho=> ?_,h.glob.keep hkeep⟩,hkeep,⟨hkeep,rfl,rfl,rfl,Nat.le_refl _,fun _ _ _=>rfl,fun r' hr=> .inl ?_,fun b' o ho=> ?_⟩,fun r' k' e' o ho=> ?_⟩
  ·rw[hsome]at a b;exact h.inj i j r k k' a b
  ·simp only[look]at hi
   cases ei:Nat.beq i b with
   |true=>
    rw[ei]at hi
    simp only[cond_true]at hi
    injection hi with hi;subst hi
    rw[Nat.eq_of_beq_eq_true ei]
    refine .inr ⟨r,k,arr,e,h1,h1',h2,h3,h4,h5,fun i e j x u a b c=>(h6 i e j x u a b c).keep hkeep,fun o=>⟨fun ho=> ?_,fun ho=> .inr ⟨rfl,ho⟩⟩,Nat.le_refl _⟩
    rcases ho with ho|ho
    ·have:=(h7 o).1 ho
     exact Nat.lt_of_lt_of_le this (Nat.mul_le_mul_right es h8)
    ·exact ho.2
   |false=>
    rw[ei]at hi
    simp only[cond_false]at hi
    refine (h.blk i bl hi).keep hkeep (More.refl _) (fun _ _ _=>rfl) (fun r' k' e' o=>⟨fun ho=> ?_,fun ho=> .inl ho⟩)
    rcases ho with ho|⟨rfl,ho⟩
    ·exact ho
    ·have:=h.inj i b r' k' k (by rw[hi];rfl) (by rw[hb];rfl) e' e
     subst this
     rw[Nat.beq_refl]at ei;cases ei
  ·rcases ho with ho|⟨rfl,ho⟩
   ·exact h.old b' o ho
   ·have hlt:o<arr.size:=by rw[h2];exact Nat.lt_of_lt_of_le ho (Nat.mul_le_mul_right es h3)
    simp[World.cell?,h1,hlt]
  ·obtain ⟨i,k,hi,e⟩:=hr
   rw[hsome]at hi
   exact ⟨i,k,hi,e⟩
  ·rcases ho with ho|⟨rfl,ho⟩
   ·exact .inl ho
   ·exact .inr (.inl ⟨b,k,by rw[hb];rfl,e⟩)
  ·rw[e]at e';injection e' with e';injection e' with e1 e2;subst e1;exact .inr ⟨rfl,ho⟩
theorem VR.row_data [Laid] {ν:Nu} {F:Fz} {w:World} {H:Hp} (h:Rel ν F w H) {b ty es:Nat} {α:Type} {df:α} {cells:α→List D} {xs:List α} (hb:H b=some (.row ty es df cells xs xs.length))
 {v:Value} (hv:VR ν F w (.sl b es 0 xs.length) v):DR F w (.row df cells xs) v:=by
 cases hv with
 |sl _ _ _ _ A c h1 h2 h3=>
 rcases h.blk b _ hb with ⟨e1,e2,e3⟩|⟨r,k,arr,e,k1,k1',k2,k3,k4,k5,k6,k7,k8⟩
 ·subst e2
  exact .row df cells [] A c 0 0 0 (fun _ _=>undef) (fun h=>absurd rfl h) h3 (fun e h=>by cases h) (fun i e j x h=>by simp at h) (fun i e j x h=>by simp at h) (fun i e j x h=>by simp at h)
 ·have hlt:∀(i:Nat) e (j:Nat) x,xs[i]? =some e→(cells e)[j]? =some x→i*es+j<xs.length*es:=fun i e j x a b=>by
   have hi:=(List.getElem?_eq_some_iff.1 a).1
   have hj:=(List.getElem?_eq_some_iff.1 b).1
   rw[k4 e (List.mem_of_getElem? a)]at hj
   exact blk_idx hi hj
  have hsz:xs.length*es≤arr.size:=by rw[k2];exact Nat.mul_le_mul_right es k3
  refine .row df cells xs A c r 0 es (fun i j=>arr.getD (i*es+j) undef) (fun hne=> ?_) h3 k4 (fun i e j x a b=> ?_) (fun i e j x a b=> ?_) (fun i e j x a b=> ?_)
  ·obtain ⟨r',k',e',hA,_⟩:=h1 (List.length_pos_iff.2 hne)
   rw[e]at e';injection e' with e';injection e' with e1 e2;subst e1
   rw[hA,Nat.zero_mul]
  ·have:=hlt i e j x a b
   simp only[World.cell?,k1,Nat.zero_add]
   have:i*es+j<arr.size:=by omega
   simp[this]
  ·rw[Nat.zero_add];exact (k7 _).2 (hlt i e j x a b)
  ·have:=hlt i e j x a b
   exact k6 i e j x _ a b (by have:i*es+j<arr.size:=by omega
                              simp[this])
def Blk.ren (ρ:Nat→Nat):Blk→Blk
 | .box cells=> .box (G.renL ρ cells)
 | .row ty es df cs xs fz=> .row ty es df cs xs fz
 | .mp L=> .mp L
 | .tbx T vs=> .tbx T vs
def Blk.lt (n:Nat):Blk→Bool
 | .box cells=>G.ltL n cells
 | .row .. =>true
 | .mp _=>true
 | .tbx _ _=>true
theorem BR.ren {ν:Nu} {F:Fz} {w:World} {ρ:Nat→Nat} {n:Nat} {p:Option (Nat×Nat)} {b:Blk} (h:BR ν F w p (b.ren ρ)) (hl:b.lt n=true):BR (cutNu n ρ ν) F w p b:=by
 cases b with
 |box cells=>
  obtain ⟨r,k,arr,T,e,h1,h2,h3,h4,h5⟩:=h
  simp only[renL_map]at h2 h4
  simp only[Blk.lt,ltL_all,List.all_eq_true]at hl
  refine ⟨r,k,arr,T,e,h1,by rw[h2];simp,h3,fun j g u a b=> ?_,h5⟩
  exact (h4 j (g.ren ρ) u (by rw[List.getElem?_map,a];rfl) b).ren g rfl (hl g (List.mem_of_getElem? a))
 |row ty es df cs xs fz=>exact h
 |mp L=>exact h
 |tbx T vs=>exact h
def wkT (ρ:Nat→Nat) (n:Nat) (σ:St):List (Nat×G)→Prop
 | []=>True
 |(t,g)::l=>((∃g0,σ.get t=g0∧Ent g0 (g.ren ρ))∧g.lt n=true)∧wkT ρ n σ l
def wkH (ρ:Nat→Nat) (n:Nat) (σ:St):List (Nat×Option Blk)→Prop
 | []=>True
 |(i,some b)::l=>(σ.H (ρ i)=some (b.ren ρ)∧b.lt n=true∧i<n)∧wkH ρ n σ l
 |(i,none)::l=>wkH ρ n σ l
theorem wkT_get {ρ:Nat→Nat} {n:Nat} {σ:St} {ν:Nu} {F:Fz} {w:World} {v:Value} {t:Nat} (hv:VR ν F w (σ.get t) v):∀l,wkT ρ n σ l→VR (cutNu n ρ ν) F w (getG l t) v:=by
 intro l
 induction l with
 |nil=>intro _;exact .junk _
 |cons p l ih=>
  obtain ⟨k,g⟩:=p
  intro h
  simp only[getG]
  cases e:Nat.beq t k with
  |false=>exact ih h.2
  |true=>
   obtain ⟨⟨⟨g0,h1,h2⟩,h3⟩,_⟩:=h
   rw[Nat.eq_of_beq_eq_true e,h1]at hv
   exact (h2 _ _ _ _ hv).ren g rfl h3
theorem wkH_get {ρ:Nat→Nat} {n:Nat} {σ:St} {i:Nat} {b:Blk} :∀l,wkH ρ n σ l→look l noHp i=some b→σ.H (ρ i)=some (b.ren ρ)∧b.lt n=true∧i<n:=by
 intro l
 induction l with
 |nil=>intro _ h;cases h
 |cons p l ih=>
  obtain ⟨k,ob⟩:=p
  intro h hb
  simp only[look]at hb
  cases e:Nat.beq i k with
  |false=>
   rw[e]at hb
   cases ob with
   |none=>exact ih h hb
   |some b'=>exact ih h.2 hb
  |true=>
   rw[e]at hb
   simp only[cond_true]at hb
   subst hb
   rw[Nat.eq_of_beq_eq_true e]
   exact h.1
structure Weak (p:Nat) (ρ:Nat→Nat) (σ τ:St):Prop where
 tmps:wkT ρ τ.next σ τ.tmps
 heap:wkH ρ τ.next σ τ.hp
 one:∀i j,(τ.H i).isSome=true→(τ.H j).isSome=true→ρ i=ρ j→i=j
 par:∀i,i<p→ρ i=i
 pin:p≤τ.next
theorem gw_weak [Laid] {P:Program} {nt p:Nat} {c:Code} {σ τ:St} {Q:Exit→St→Prop} (ρ:Nat→Nat) (hw:Weak p ρ σ τ) (h:GW P nt p c τ Q):GW P nt p c σ Q:=by
 intro ro ν F a w hr hl
 have hH:∀i b,τ.H i=some b→σ.H (ρ i)=some (b.ren ρ)∧b.lt τ.next=true∧i<τ.next:=fun i b hb=>wkH_get τ.hp hw.heap hb
 have hk:∀i,i<τ.next→cutNu τ.next ρ ν i=ν (ρ i):=fun i hi=>if_pos hi
 refine GPost.from h (ν1:=cutNu τ.next ρ ν) (F1:=F) (w1:=w) ⟨hw.pin,fun t=>wkT_get (hr.vals t) τ.tmps hw.tmps,⟨fun i j r k k' hi hj e e'=> ?_,fun i b hb=> ?_,hr.rel.old,hr.rel.glob⟩,hr.defers,fun i hi=>if_neg (by omega),hr.size,fun i hi=> ?_⟩ hl
  ⟨Keep.refl _ _,rfl,rfl,rfl,Nat.le_refl _,fun _ _ _=>rfl,fun r hm=> .inl ?_,fun _ _ h=> .inl h⟩ (Pin.of _ rfl fun i hi=> ?_) (fun _ _ _ h=>h)
 ·obtain ⟨b,hb⟩:=Option.isSome_iff_exists.1 hi
  obtain ⟨b',hb'⟩:=Option.isSome_iff_exists.1 hj
  obtain ⟨a1,_,a3⟩:=hH i b hb
  obtain ⟨c1,_,c3⟩:=hH j b' hb'
  rw[hk i a3]at e
  rw[hk j c3]at e'
  exact hw.one i j hi hj (hr.rel.inj _ _ r k k' (by rw[a1];rfl) (by rw[c1];rfl) e e')
 ·obtain ⟨a1,a2,a3⟩:=hH i b hb
  rw[hk i a3]
  exact (hr.rel.blk _ _ a1).ren a2
 ·cases hb:τ.H i with
  |none=>rfl
  |some b=>have:=(hH i b hb).2.2;omega
 ·obtain ⟨i,k,hi,e⟩:=hm
  obtain ⟨b,hb⟩:=Option.isSome_iff_exists.1 hi
  obtain ⟨a1,_,a3⟩:=hH i b hb
  rw[hk i a3]at e
  exact ⟨ρ i,k,by rw[a1];rfl,e⟩
 ·have:=hw.pin
  rw[hk i (by omega),hw.par i hi]
end Go.Gh
namespace Go.Gh
open Go Go.RowKit
set_option linter.unusedVariables false
structure TyE where
 desc:TypeDesc
 size:Nat
 bytes:Nat
 zero:Value
abbrev Tab:=List (Nat×TyE)
def tyAt:Tab→Nat→Option TyE
 | [],_=>none
 |(k,e)::l,t=>bif Nat.beq t k then some e else tyAt l t
def TyOK (P:Program) (t:Nat) (e:TyE):Prop:=P.underlying t=some e.desc∧(P.info? t).map (fun i=>(i.size,i.bytes,i.zero))=some (e.size,e.bytes,some e.zero)
def TabOK (P:Program) (T:Tab):Prop:=∀t e,tyAt T t=some e→TyOK P t e
theorem TabOK.nil (P:Program):TabOK P []:=fun _ _ h=>by cases h
theorem TabOK.cons {P:Program} {T:Tab} {t:Nat} {e:TyE} (h:TyOK P t e) (k:TabOK P T):TabOK P ((t,e)::T):=fun t' e' h'=>by
 simp only[tyAt]at h'
 cases hb:Nat.beq t' t with
 |true=>rw[hb]at h';simp only[cond_true]at h';injection h' with h';subst h';rw[Nat.eq_of_beq_eq_true hb];exact h
 |false=>rw[hb]at h';exact k t' e' h'
section ty
variable {P:Program} {t:Nat} {e:TyE} (h:TyOK P t e) (w:World)
include h
theorem TyOK.under:(underlying t).run P w= .ok e.desc w:=run_underlying h.1 w
theorem TyOK.info:∃i,P.info? t=some i∧i.size=e.size∧i.bytes=e.bytes∧i.zero=some e.zero:=by
 have:=h.2
 cases hi:P.info? t with
 |none=>rw[hi]at this;cases this
 |some i=>
  rw[hi]at this
  simp only[Option.map_some]at this
  injection this with this
  injection this with a b
  injection b with b c
  exact ⟨i,rfl,a,b,c⟩
theorem TyOK.tinfo:∃i,(typeInfo t).run P w= .ok i w∧i.size=e.size∧i.bytes=e.bytes∧i.zero=some e.zero:=by
 obtain ⟨i,h1,h2⟩:=h.info
 exact ⟨i,by simp[typeInfo,h1],h2⟩
theorem TyOK.sizeOf:(sizeOf t).run P w= .ok e.size w:=by
 obtain ⟨i,h1,h2,_⟩:=h.tinfo w
 unfold Go.sizeOf
 simp only[Sem.run_bind,h1,Result.andThen_ok,Sem.run_pure,h2]
theorem TyOK.zeroV:(zeroValue t).run P w= .ok e.zero w:=by
 obtain ⟨i,h1,_,_,h4⟩:=h.tinfo w
 unfold Go.zeroValue
 simp only[Sem.run_bind,h1,Result.andThen_ok,h4,Sem.run_pure]
end ty
def aggD:TypeDesc→Bool
 | .struct _=>true
 | .array _ _=>true
 |_=>false
theorem TyOK.isAgg {P:Program} {t:Nat} {e:TyE} (h:TyOK P t e) (w:World):(isAgg t).run P w= .ok (aggD e.desc) w:=by
 unfold Go.isAgg
 simp only[Sem.run_bind,h.under w,Result.andThen_ok]
 cases e.desc<;>rfl
def addNu (ν:Nu) (i r k:Nat):Nu:=fun j=>bif Nat.beq j i then some (r,k)else ν j
theorem addNu_same (ν:Nu) (i r k:Nat):addNu ν i r k i=some (r,k):=by simp only[addNu,Nat.beq_refl,cond_true]
theorem addNu_other (ν:Nu) {i r k j:Nat} (h:j≠i):addNu ν i r k j=ν j:=by
 have:Nat.beq j i=false:=by
  cases e:Nat.beq j i with
  |false=>rfl
  |true=>exact absurd (Nat.eq_of_beq_eq_true e) h
 simp only[addNu,this,cond_false]
theorem More.add {ν:Nu} {i r k:Nat} (h:ν i=none):More ν (addNu ν i r k):=fun j p hj=>by
 by_cases e:j=i
 ·subst e;rw[h]at hj;cases hj
 ·rw[addNu_other ν e];exact hj
theorem look1_same {b:Option Blk} {H:Hp} {i:Nat} :look [(i,b)] H i=b:=by simp only[look,Nat.beq_refl,cond_true]
theorem look1_other {b:Option Blk} {H:Hp} {i j:Nat} (h:j≠i):look [(i,b)] H j=H j:=look_other _ _ _ (by simpa using h)
theorem keep_alloc {F:Fz} {w:World} (h:∀b o,F b o→b<w.heap.size) (o:Obj):Keep F w F (w.alloc o):=
 ⟨fun _ _ h=>h,fun b o' hb=>World.cell?_alloc_lt w o ⟨b,o',none⟩ (h b o' hb),fun b o' hb=>szAt_of (Below.heap_alloc w o b (h b o' hb))⟩
theorem Rel.add [Laid] {ν:Nu} {F:Fz} {w:World} {H:Hp} (h:Rel ν F w H) {i k:Nat} (hi:ν i=none) (hH:H i=none) (o:Obj) {b:Blk} (hb:BR (addNu ν i w.heap.size k) F (w.alloc o) (some (w.heap.size,k)) b):
 Rel (addNu ν i w.heap.size k) F (w.alloc o) (look [(i,some b)] H)∧Evo ν F w H (addNu ν i w.heap.size k) F (w.alloc o) (look [(i,some b)] H):=by
 have hk:Keep F w F (w.alloc o):=keep_alloc (fun b o hb=>h.old_lt hb) o
 have hlt:∀j r k',(H j).isSome=true→ν j=some (r,k')→r<w.heap.size:=fun j r k' a b=>h.mine_lt ⟨j,k',a,b⟩
 refine ⟨⟨fun x y r k1 k2 hx hy ex ey=> ?_,fun x bl hx=> ?_,fun b' o' ho=> ?_,h.glob.keep hk⟩,⟨hk,rfl,rfl,rfl,by simp,fun r hr _=>Below.heap_alloc w o r hr,fun r hm=> ?_,fun _ _ h=> .inl h⟩⟩
 ·by_cases e1:x=i<;>by_cases e2:y=i
  ·rw[e1,e2]
  ·subst e1
   rw[addNu_same]at ex;rw[addNu_other ν e2]at ey;rw[look1_other e2]at hy
   injection ex with ex;injection ex with ex1 ex2
   have:=hlt y r k2 hy ey;omega
  ·subst e2
   rw[addNu_same]at ey;rw[addNu_other ν e1]at ex;rw[look1_other e1]at hx
   injection ey with ey;injection ey with ey1 ey2
   have:=hlt x r k1 hx ex;omega
  ·rw[addNu_other ν e1]at ex;rw[addNu_other ν e2]at ey;rw[look1_other e1]at hx;rw[look1_other e2]at hy
   exact h.inj x y r k1 k2 hx hy ex ey
 ·by_cases e1:x=i
  ·subst e1
   rw[look1_same]at hx;injection hx with hx;subst hx
   rw[addNu_same];exact hb
  ·rw[look1_other e1]at hx;rw[addNu_other ν e1]
   refine (h.blk x bl hx).keep hk (More.add hi) (fun r k' e=>Below.heap_alloc w o r (hlt x r k' (by rw[hx];rfl) e)) (fun _ _ _ _=>Iff.rfl)
 ·have:=h.old b' o' ho
  rw[←World.cell?_alloc_lt w o ⟨b',o',none⟩ (h.old_lt ho)]at this;exact this
 ·obtain ⟨x,k',hx,ex⟩:=hm
  by_cases e1:x=i
  ·subst e1;rw[addNu_same]at ex;injection ex with ex;injection ex with ex1 ex2;right;omega
  ·rw[look1_other e1]at hx;rw[addNu_other ν e1]at ex;exact .inl ⟨x,k',hx,ex⟩
theorem Rel.put [Laid] {ν:Nu} {F:Fz} {w w':World} {H:Hp} (h:Rel ν F w H) {i r k:Nat} {b0 b:Blk} (hH:H i=some b0) (hi:ν i=some (r,k)) (ho:∀r',r'≠r→w'.heap[r']? =w.heap[r']?)
 (hs:w'.heap.size=w.heap.size) (hF:∀o,F r o→w'.cell? ⟨r,o,none⟩=w.cell? ⟨r,o,none⟩) (e1:w'.os=w.os) (e2:w'.tape=w.tape) (e3:w'.output=w.output) (hb:BR ν F w' (some (r,k)) b) (hsz:∀o,F r o→szAt w' r=szAt w r):
 Rel ν F w' (look [(i,some b)] H)∧Evo ν F w H ν F w' (look [(i,some b)] H):=by
 have hcell:∀b' o',F b' o'→w'.cell? ⟨b',o',none⟩=w.cell? ⟨b',o',none⟩:=fun b' o' hb'=>by
  by_cases e:b'=r
  ·subst e;exact hF o' hb'
  ·simp only[World.cell?,ho b' e]
 have hk:Keep F w F w':=⟨fun _ _ h=>h,hcell,fun b' o' hb'=>by
  by_cases e:b'=r
  ·subst e;exact hsz o' hb'
  ·exact szAt_of (ho b' e)⟩
 have hsome:∀x,(look [(i,some b)] H x).isSome=(H x).isSome:=fun x=>by
  by_cases e:x=i
  ·subst e;rw[look1_same,hH];rfl
  ·rw[look1_other e]
 refine ⟨⟨fun x y r k1 k2 hx hy ex ey=> ?_,fun x bl hx=> ?_,fun b' o' ho'=> ?_,h.glob.keep hk⟩,⟨hk,e1,e2,e3,by omega,fun r' hr hm=>ho r' fun e=>hm ⟨i,k,by rw[hH];rfl,by rw[hi,e]⟩,fun r' hm=> .inl ?_,fun _ _ h=> .inl h⟩⟩
 ·rw[hsome]at hx hy;exact h.inj x y r k1 k2 hx hy ex ey
 ·by_cases e:x=i
  ·subst e;rw[look1_same]at hx;injection hx with hx;subst hx;rw[hi];exact hb
  ·rw[look1_other e]at hx
   refine (h.blk x bl hx).keep hk (More.refl _) (fun r' k' ex=>ho r' fun er=>e ?_) (fun _ _ _ _=>Iff.rfl)
   subst er
   exact h.inj x i r' k' k (by rw[hx];rfl) (by rw[hH];rfl) ex hi
 ·rw[hcell b' o' ho'];exact h.old b' o' ho'
 ·obtain ⟨x,k',hx,ex⟩:=hm
  rw[hsome]at hx;exact ⟨x,k',hx,ex⟩
def G.one:G→Bool
 | .d _=>true
 | .ptr .. =>true
 | .sl .. =>true
 | .ep _=>true
 | .fn .. =>true
 | .iface .. =>true
 | .mp _=>true
 |_=>false
theorem DR.one {F:Fz} {w:World} {x:D} {v:Value} (h:DR F w x v):v.oneCell'=true:=by cases h<;>first|assumption|rfl
theorem VR.one {ν:Nu} {F:Fz} {w:World} {g:G} {v:Value} (h:VR ν F w g v) (hg:g.one=true):v.oneCell'=true:=by
 cases h<;>first|(cases hg;done)|rfl|skip
 rename_i h;exact h.one
def cellsG:G→Option (List G)
 | .agg cs=>some cs
 |g=>bif g.one then some [g]else none
structure CR (ν:Nu) (F:Fz) (w:World) (gs:List G) (vs:List Value):Prop where
 len:vs.length=gs.length
 one:∀u,u∈vs→u.oneCell'=true
 val:∀(j:Nat) g u,gs[j]? =some g→vs[j]? =some u→VR ν F w g u
theorem CR.keep {ν ν':Nu} {F F':Fz} {w w':World} {gs:List G} {vs:List Value} (h:CR ν F w gs vs) (k:Keep F w F' w') (m:More ν ν'):CR ν' F' w' gs vs:=
 ⟨h.len,h.one,fun j g u a b=>(h.val j g u a b).keep k m⟩
theorem VR.cells {ν:Nu} {F:Fz} {w:World} {g:G} {v:Value} {gs:List G} (h:VR ν F w g v) (hg:cellsG g=some gs):CR ν F w gs v.cells.toList:=by
 have single:∀g' v',VR ν F w g' v'→g'.one=true→gs= [g']→v'.cells= #[v']→CR ν F w gs v'.cells.toList:=fun g' v' h' h1 h2 h3=>by
  rw[h3];subst h2
  exact ⟨rfl,fun u hu=>by simp at hu;subst hu;exact h'.one h1,fun j g u a b=>by
   match j with
   |0=>simp at a b;subst a;subst b;exact h'
   |j+1=>simp at a⟩
 cases h with
 |agg cells cs h1 hc k=>
  simp only[cellsG]at hg;injection hg with hg;subst hg
  exact ⟨by simpa [Value.cells]using h1,hc,fun j g u a b=>k j g u a (by simpa [Value.cells]using b)⟩
 |d h=>
  have:=h.one
  refine single _ _ (.d h) rfl ?_ ?_
  ·simp only[cellsG,G.one,cond_true]at hg;injection hg with hg;exact hg.symm
  ·rename_i x
   cases v<;>first|rfl|(simp[Value.oneCell']at this)
 |ptr b es i f r k h=>exact single _ _ (.ptr b es i f r k h) rfl (by simp only[cellsG,G.one,cond_true]at hg;injection hg with hg;exact hg.symm) rfl
 |sl b es i n A c h1 h2 h3 h4=>exact single _ _ (.sl b es i n A c h1 h2 h3 h4) rfl (by simp only[cellsG,G.one,cond_true]at hg;injection hg with hg;exact hg.symm) rfl
 |ep cells b off val hw hF h=>exact single _ _ (.ep cells b off val hw hF h) rfl (by simp only[cellsG,G.one,cond_true]at hg;injection hg with hg;exact hg.symm) rfl
 |fn f first captured fs cs h1 h2 k1 k2=>exact single _ _ (.fn f first captured fs cs h1 h2 k1 k2) rfl (by simp only[cellsG,G.one,cond_true]at hg;injection hg with hg;exact hg.symm) rfl
 |iface t g u h=>exact single _ _ (.iface t g u h) rfl (by simp only[cellsG,G.one,cond_true]at hg;injection hg with hg;exact hg.symm) rfl
 |mp b r k h=>exact single _ _ (.mp b r k h) rfl (by simp only[cellsG,G.one,cond_true]at hg;injection hg with hg;exact hg.symm) rfl
 |tup vs us h1 k=>simp only[cellsG,G.one,cond_false]at hg;cases hg
 |opt c g u h h0=>simp only[cellsG,G.one,cond_false]at hg;cases hg
 |ex v g h=>simp only[cellsG,G.one,cond_false]at hg;cases hg
 |junk u=>simp only[cellsG,G.one,cond_false]at hg;cases hg
theorem CR.agg {ν:Nu} {F:Fz} {w:World} {gs:List G} {vs:List Value} (h:CR ν F w gs vs):VR ν F w (.agg gs) (.agg vs.toArray):=
 .agg _ _ (by simp[h.len]) (by simpa using h.one) (fun j g u a b=>h.val j g u a (by simpa using b))
theorem CR.box {ν:Nu} {F:Fz} {w:World} {gs:List G} {vs:List Value} (h:CR ν F w gs vs) {r k:Nat} {T:TypeId} (hw:w.heap[r]? =some (.cells vs.toArray T (0,0))) (hF:∀o,¬F r o):BR ν F w (some (r,k)) (.box gs):=
 ⟨r,k,vs.toArray,T,rfl,hw,by simp[h.len],by simpa using h.one,fun j g u a b=>h.val j g u a (by simpa using b),hF⟩
theorem CR.take {ν:Nu} {F:Fz} {w:World} {gs:List G} {vs:List Value} (h:CR ν F w gs vs) (n:Nat):CR ν F w (gs.take n) (vs.take n):=
 ⟨by simp[h.len],fun u hu=>h.one u (List.mem_of_mem_take hu),fun j g u a b=>by
  rw[List.getElem?_take]at a b
  split at a
  ·rename_i hj;rw[if_pos hj]at b;exact h.val j g u a b
  ·cases a⟩
theorem CR.drop {ν:Nu} {F:Fz} {w:World} {gs:List G} {vs:List Value} (h:CR ν F w gs vs) (n:Nat):CR ν F w (gs.drop n) (vs.drop n):=
 ⟨by simp[h.len],fun u hu=>h.one u (List.mem_of_mem_drop hu),fun j g u a b=>by
  rw[List.getElem?_drop]at a b;exact h.val _ g u a b⟩
theorem CR.append {ν:Nu} {F:Fz} {w:World} {gs gs':List G} {vs vs':List Value} (h:CR ν F w gs vs) (h':CR ν F w gs' vs'):CR ν F w (gs++gs') (vs++vs'):=
 ⟨by simp[h.len,h'.len],fun u hu=>(List.mem_append.1 hu).elim (h.one u) (h'.one u),fun j g u a b=>by
  rcases Nat.lt_or_ge j gs.length with hj|hj
  ·rw[List.getElem?_append_left hj]at a;rw[List.getElem?_append_left (by rw[h.len];exact hj)]at b;exact h.val j g u a b
  ·rw[List.getElem?_append_right hj]at a;rw[List.getElem?_append_right (by rw[h.len];exact hj),h.len]at b;exact h'.val _ g u a b⟩
theorem CR.at_ {ν:Nu} {F:Fz} {w:World} {gs:List G} {vs:List Value} (h:CR ν F w gs vs) {j:Nat} {g:G} (hg:gs[j]? =some g):∃u,vs[j]? =some u∧VR ν F w g u:=by
 have hj:j<vs.length:=by rw[h.len];exact (List.getElem?_eq_some_iff.1 hg).1
 exact ⟨vs[j],List.getElem?_eq_getElem hj,h.val j g _ hg (List.getElem?_eq_getElem hj)⟩
theorem BR.box_cells {ν:Nu} {F:Fz} {w:World} {p:Option (Nat×Nat)} {gs:List G} (h:BR ν F w p (.box gs)):∃r k vs T,p=some (r,k)∧w.heap[r]? =some (.cells vs T (0,0))∧CR ν F w gs vs.toList∧∀o,¬F r o:=by
 obtain ⟨r,k,arr,T,e,h1,h2,h3,h4,h5⟩:=h
 exact ⟨r,k,arr,T,e,h1,⟨by simpa using h2,h3,fun j g u a b=>h4 j g u a (by simpa using b)⟩,h5⟩
theorem gop_val [Laid] {P:Program} {o:Oper} {ρ:Operand→G} {H:Hp} {E:Eff}
 (h:∀(ν:Nu) (F:Fz) (w:World) (a:Act),(∀x,x∈o.op.operands.toList→VR ν F w (ρ x) (a.eval x))→Rel ν F w H→(∀i,i∈E.new→ν i=none)→
  ∃(v:Value) (w':World) (ν':Nu) (F':Fz),(execOp a.eval o).run P w= .ok (.value v) w'∧VR ν' F' w' E.g v∧Rel ν' F' w' (look E.upd H)∧More ν ν'∧(∀i,ν' i≠ν i→i∈E.new)∧Evo ν F w H ν' F' w' (look E.upd H)):GOp P o ρ H E:=by
 intro ν F w a hv hr hn
 obtain ⟨v,w',ν',F',h1,h2,h3,h4,h5,h6⟩:=h ν F w a hv hr hn
 refine ⟨noDefer_of h1 fun d e=>(by cases e),?_⟩
 rw[h1]
 exact ⟨ν',F',v,rfl,h2,h3,h4,h5,h6⟩
theorem lop_pure [Laid] {P:Program} {o:Oper} {ρ:Operand→G} {H:Hp} {g:G} {fp:List Nat}
 (h:∀H':Hp,(∀i,i∈fp→H' i=H i)→∀(ν:Nu) (F:Fz) (w:World) (a:Act),(∀x,x∈o.op.operands.toList→VR ν F w (ρ x) (a.eval x))→Rel ν F w H'→
  ∃v,(execOp a.eval o).run P w= .ok (.value v) w∧VR ν F w g v):LOp P o ρ H {g:=g,fp:=fp} :=by
 intro H' hf _
 refine gop_val fun ν F w a hv hr _=> ?_
 obtain ⟨v,h1,h2⟩:=h H' hf ν F w a hv hr
 exact ⟨v,w,ν,F,h1,h2,hr,More.refl _,fun i hi=>absurd rfl hi,Evo.refl _ _ _ _⟩
theorem gop_skip [Laid] {P:Program} {o:Oper} {ρ:Operand→G} {H:Hp} {upd:List (Nat×Option Blk)} {fp:List Nat}
 (h:∀(ν:Nu) (F:Fz) (w:World) (a:Act),(∀x,x∈o.op.operands.toList→VR ν F w (ρ x) (a.eval x))→Rel ν F w H→
  ∃(w':World),(execOp a.eval o).run P w= .ok .skip w'∧Rel ν F w' (look upd H)∧Evo ν F w H ν F w' (look upd H)):GOp P o ρ H {g:= .junk,upd:=upd,fp:=fp} :=by
 intro ν F w a hv hr hn
 obtain ⟨w',h1,h2,h3⟩:=h ν F w a hv hr
 refine ⟨noDefer_of h1 fun d e=>(by cases e),?_⟩
 rw[h1]
 exact ⟨ν,F,undef,rfl,.junk _,h2,More.refl _,fun i hi=>absurd rfl hi,h3⟩
end Go.Gh
namespace Go.Gh
open Go Go.RowKit
set_option linter.unusedVariables false
abbrev inR:IntKind→Int→Prop
 | .i8,n=> -128≤n∧n≤127
 | .i16,n=> -32768≤n∧n≤32767
 | .i32,n=> -2147483648≤n∧n≤2147483647
 | .i64,n=> -9223372036854775808≤n∧n≤9223372036854775807
 | .u8,n=>0≤n∧n≤255
 | .u16,n=>0≤n∧n≤65535
 | .u32,n=>0≤n∧n≤4294967295
 | .u64,n=>0≤n∧n≤18446744073709551615
theorem wrap_in {k:IntKind} {n:Int} (h:inR k n):k.wrap n=n:=by
 cases k
 ·exact IntWalk.i8_in n h
 ·exact IntWalk.i16_in n h
 ·exact IntWalk.i32_in n h
 ·exact IntWalk.i64_in n h
 ·exact IntWalk.u8_in n h
 ·exact IntWalk.u16_in n h
 ·exact IntWalk.u32_in n h
 ·exact IntWalk.u64_in n h
theorem str_dec (x y:ByteArray):(x.toList==y.toList)=decide (x=y):=by
 by_cases h:x=y
 ·subst h;simp
 ·rw[decide_eq_false h]
  refine beq_eq_false_iff_ne.2 fun e=>h ?_
  rw[ByteArray.toList_eq,ByteArray.toList_eq]at e
  exact ByteArray.ext (Array.toList_inj.1 e)
def strLt (x y:ByteArray):Bool:=Op.bytesLess x.toList y.toList
def kindEq:IntKind→IntKind→Bool
 | .i8,.i8=>true
 | .i16,.i16=>true
 | .i32,.i32=>true
 | .i64,.i64=>true
 | .u8,.u8=>true
 | .u16,.u16=>true
 | .u32,.u32=>true
 | .u64,.u64=>true
 |_,_=>false
theorem kindEq_spec {k k':IntKind} (h:kindEq k k'=true):k=k':=by cases k<;>cases k'<;>first|rfl|cases h
def obP:Option Prop→Prop
 |none=>True
 |some p=>p
def arithG (wr:Bool) (k:IntKind) (r:Int):Option Prop×Value:=
 match wr with
 |true=>(none,.int k (k.wrap r))
 |false=>(some (inR k r),.int k r)
def andI (k:IntKind) (a b:Int):Int:=k.wrap ((BitVec.ofInt k.bits a&&&BitVec.ofInt k.bits b).toNat:Nat)
def orI (k:IntKind) (a b:Int):Int:=k.wrap ((BitVec.ofInt k.bits a|||BitVec.ofInt k.bits b).toNat:Nat)
def xorI (k:IntKind) (a b:Int):Int:=k.wrap ((BitVec.ofInt k.bits a^^^BitVec.ofInt k.bits b).toNat:Nat)
def andNotI (k:IntKind) (a b:Int):Int:=k.wrap ((BitVec.ofInt k.bits a&&& ~~~(BitVec.ofInt k.bits b)).toNat:Nat)
def shlI (k:IntKind) (a b:Int):Int:=k.wrap (a*2^(min b.toNat k.bits))
def shrI (k:IntKind) (a b:Int):Int:=a.fdiv (2^(min b.toNat k.bits))
def intG (wr:Bool) (op:BinOp) (k:IntKind) (a b:Int):Option (Option Prop×Value):=
 match op with
 | .add=>some (arithG wr k (a+b))
 | .sub=>some (arithG wr k (a-b))
 | .mul=>some (arithG wr k (a*b))
 | .quo=>match wr with
   |true=>some (some (b≠0),.int k (k.wrap (a.tdiv b)))
   |false=>some (some (0≤a∧1≤b∧inR k (a/b)),.int k (a/b))
 | .rem=>match wr with
   |true=>some (some (b≠0),.int k (a.tmod b))
   |false=>some (some (0≤a∧1≤b),.int k (a % b))
 | .eql=>some (none,.bool (decide (a=b)))
 | .neq=>some (none,.bool (!decide (a=b)))
 | .lss=>some (none,.bool (decide (a<b)))
 | .leq=>some (none,.bool (decide (a≤b)))
 | .gtr=>some (none,.bool (decide (b<a)))
 | .geq=>some (none,.bool (decide (b≤a)))
 | .and=>some (none,.int k (andI k a b))
 | .or=>some (none,.int k (orI k a b))
 | .xor=>some (none,.int k (xorI k a b))
 | .andNot=>some (none,.int k (andNotI k a b))
 |_=>none
def shG (op:BinOp) (k:IntKind) (a b:Int):Option (Option Prop×Value):=
 match op with
 | .shl=>some (some (0≤b),.int k (shlI k a b))
 | .shr=>some (some (0≤b),.int k (shrI k a b))
 |_=>none
def strG (op:BinOp) (x y:ByteArray):Option (Option Prop×Value):=
 match op with
 | .add=>some (some (x.size+y.size≤9223372036854775807),.string (x++y))
 | .eql=>some (none,.bool (decide (x=y)))
 | .neq=>some (none,.bool (!decide (x=y)))
 | .lss=>some (none,.bool (strLt x y))
 | .leq=>some (none,.bool (strLt x y||decide (x=y)))
 | .gtr=>some (none,.bool (!(strLt x y||decide (x=y))))
 | .geq=>some (none,.bool (!strLt x y))
 |_=>none
def binG (wr:Bool) (op:BinOp) (t:Option TyE) (x y:Value):Option (Option Prop×Value):=
 match x,y with
 | .int k a,.int k' b=>match shG op k a b with
   |some r=>some r
   |none=>bif kindEq k k' then intG wr op k a b else none
 | .string a,.string b=>strG op a b
 | .bool a,.bool b=>match t,op with
   |some {desc:= .bool,.. },.eql=>some (none,.bool (a==b))
   |some {desc:= .bool,.. },.neq=>some (none,.bool (!(a==b)))
   |_,_=>none
 |_,_=>none
theorem int_beq (a b:Int):(a==b)=decide (a=b):=by by_cases h:a=b<;>simp[h]
theorem run_intG {P:Program} {wr:Bool} {op:BinOp} {k:IntKind} {a b:Int} {pr:Option Prop} {v:Value} (h:intG wr op k a b=some (pr,v)) (hp:obP pr) (t:TypeId) (w:World):(binOp op t (.int k a) (.int k b)).run P w= .ok v w:=by
 have key:∀r,arithG wr k r=(pr,v)→v= .int k (k.wrap r):=fun r e=>by
  cases wr<;>simp only[arithG,Prod.mk.injEq]at e<;>obtain ⟨rfl,rfl⟩:=e
  ·rw[wrap_in hp]
  ·rfl
 cases op<;>simp only[intG,Option.some.injEq,reduceCtorEq]at h<;>first
  |(have:=key _ h;subst this;simp[binOp,Op.intArith];done)
  |(obtain ⟨rfl,rfl⟩:=Prod.mk.inj h;simp[binOp,Op.intCmp];done)
  |skip
 ·cases wr<;>simp only[Option.some.injEq,Prod.mk.injEq]at h<;>obtain ⟨rfl,rfl⟩:=h
  ·obtain ⟨h1,h2,h3⟩:=hp
   have e:a.tdiv b=a/b:=Int.tdiv_eq_ediv_of_nonneg h1
   have hb:b≠0:=by omega
   simp[binOp,Op.intDiv,hb,e,wrap_in h3]
  ·have hp:b≠0:=hp
   simp[binOp,Op.intDiv,hp]
 ·cases wr<;>simp only[Option.some.injEq,Prod.mk.injEq]at h<;>obtain ⟨rfl,rfl⟩:=h
  ·obtain ⟨h1,h2⟩:=hp
   have e:a.tmod b=a % b:=Int.tmod_eq_emod_of_nonneg h1
   have hb:b≠0:=by omega
   simp[binOp,Op.intDiv,hb,e]
  ·have hp:b≠0:=hp
   simp[binOp,Op.intDiv,hp]
 all_goals (obtain ⟨rfl,rfl⟩:=Prod.mk.inj h;first|(simp[binOp,Op.intBits,andI,orI,xorI,andNotI];done)|(simp[binOp,Op.intCmp,bne];try exact int_beq a b))
theorem run_shG {P:Program} {op:BinOp} {k k':IntKind} {a b:Int} {pr:Option Prop} {v:Value} (h:shG op k a b=some (pr,v)) (hp:obP pr) (t:TypeId) (w:World):(binOp op t (.int k a) (.int k' b)).run P w= .ok v w:=by
 cases op<;>simp only[shG,Option.some.injEq,reduceCtorEq]at h<;>obtain ⟨rfl,rfl⟩:=Prod.mk.inj h<;>have hp:0≤b:=hp<;>have hn:¬b<0:=by omega
 all_goals simp[binOp,Op.shift,hn,shlI,shrI]
theorem run_strG {P:Program} {op:BinOp} {a b:ByteArray} {pr:Option Prop} {v:Value} (h:strG op a b=some (pr,v)) (hp:obP pr) (t:TypeId) (w:World):(binOp op t (.string a) (.string b)).run P w= .ok v w:=by
 cases op<;>simp only[strG,Option.some.injEq,reduceCtorEq]at h<;>obtain ⟨rfl,rfl⟩:=Prod.mk.inj h<;>simp only[binOp,Op.stringOp]<;>first|rfl|(rw[str_dec];rfl)|skip
 have hp:a.size+b.size≤9223372036854775807:=hp
 have:¬(((a.size+b.size:Nat):Int)>IntKind.i64.max):=by
  have:IntKind.i64.max=9223372036854775807:=rfl
  omega
 rw[if_neg this];rfl
theorem guard_int {P:Program} {op:BinOp} {t:TypeId} {xo yo:Operand} {k:IntKind} {a:Int} {y:Value} (w:World):(eqGuard op t xo yo (.int k a) y).run P w= .ok () w:=by cases op<;>rfl
theorem guard_str {P:Program} {op:BinOp} {t:TypeId} {xo yo:Operand} {a:ByteArray} {y:Value} (w:World):(eqGuard op t xo yo (.string a) y).run P w= .ok () w:=by cases op<;>rfl
theorem guard_bool {P:Program} {op:BinOp} {t:TypeId} {xo yo:Operand} {a:Bool} {y:Value} (w:World):(eqGuard op t xo yo (.bool a) y).run P w= .ok () w:=by cases op<;>rfl
theorem run_binG {P:Program} {wr:Bool} {op:BinOp} {t:TypeId} {te:Option TyE} (ht:∀e,te=some e→TyOK P t e) {x y:Value} {pr:Option Prop} {v:Value} (h:binG wr op te x y=some (pr,v)) (hp:obP pr) (xo yo:Operand) (w:World):
 (do eqGuard op t xo yo x y;binOp op t x y:Sem Value).run P w= .ok v w:=by
 unfold binG at h
 split at h
 ·rename_i k a k' b
  split at h
  ·rename_i r hr
   cases h
   simp only[Sem.run_bind,guard_int,Result.andThen_ok]
   exact run_shG hr hp t w
  cases hk:kindEq k k' with
  |false=>rw[hk]at h;cases h
  |true=>
   rw[hk]at h
   have:=kindEq_spec hk;subst this
   simp only[Sem.run_bind,guard_int,Result.andThen_ok]
   exact run_intG h hp t w
 ·rename_i a b
  simp only[Sem.run_bind,guard_str,Result.andThen_ok]
  exact run_strG h hp t w
 ·rename_i a b
  simp only[Sem.run_bind,guard_bool,Result.andThen_ok]
  split at h
  ·rename_i e s1 s2 s3
   obtain ⟨rfl,rfl⟩:=Prod.mk.inj (Option.some.inj h)
   exact run_eql_bool w t a b (ht _ rfl).1
  ·rename_i e s1 s2 s3
   obtain ⟨rfl,rfl⟩:=Prod.mk.inj (Option.some.inj h)
   exact run_neq_bool w t a b (ht _ rfl).1
  ·cases h
 ·cases h
end Go.Gh
namespace Go.Gh
open Go Go.RowKit
set_option linter.unusedVariables false
theorem addr_add (r o j:Nat):(⟨r,o,none⟩:Addr).add j=⟨r,o+j,none⟩:=by unfold Addr.add;split<;>simp_all
theorem cell_at {w:World} {r:Nat} {arr:Array Value} {T:TypeId} {fr:Nat×Nat} (h:w.heap[r]? =some (.cells arr T fr)) (o:Nat):w.cell? ⟨r,o,none⟩=arr[o]? :=by simp[World.cell?,h]
section
variable {P:Program} {T:Tab} {o:Oper} {ρ:Operand→G} {H:Hp}
theorem lop_move [Laid] {x:Operand} (ho:o.op= .move x∨o.op= .assign x):LOp P o ρ H {g:=ρ x} :=by
 refine lop_pure fun H' _ ν F w a hv hr=>⟨a.eval x,?_,?_⟩
 ·rcases ho with ho|ho<;>simp[execOp,ho]
 ·refine hv x ?_
  rcases ho with ho|ho<;>simp[ho,Op.operands]
def boolG:G→Option (Option Bool×Bool)
 | .d (.sc (.bool x))=>some (none,x)
 | .opt c (.d (.sc (.bool x)))=>some (some c,x)
 |_=>none
theorem boolG_sound {g:G} {c:Option Bool} {x:Bool} (h:boolG g=some (c,x)) {ν:Nu} {F:Fz} {w:World} {v:Value} (hv:VR ν F w g v) (hc:∀b,c=some b→b=true):v= .bool x:=by
 unfold boolG at h
 split at h
 ·cases h;exact hv.bool
 ·cases h
  cases hv with
  |opt _ _ _ h1 h0=>exact (h1 (hc _ rfl)).bool
 ·cases h
def andP:Option Prop→Option Prop→Option Prop
 |none,q=>q
 |some p,none=>some p
 |some p,some q=>some (p∧q)
theorem andP_1 {p q:Option Prop} (h:obP (andP p q)):obP p:=by
 cases p with
 |none=>trivial
 |some p=>cases q with
  |none=>exact h
  |some q=>exact h.1
theorem andP_2 {p q:Option Prop} (h:obP (andP p q)):obP q:=by
 cases p with
 |none=>exact h
 |some p=>cases q with
  |none=>trivial
  |some q=>exact h.2
def optP (p:Prop→Prop):Option Bool→Option Prop
 |none=>none
 |some b=>some (p (b=true))
theorem optP_spec {p:Prop→Prop} {c:Option Bool} (h:obP (optP p c)):∀b,c=some b→p (b=true):=fun b e=>by subst e;exact h
def pickG (c0:Bool) (gc ga gb:G):Option (Option Prop×G):=
 match boolG gc,boolG ga,boolG gb with
 |some (cc,c),some (ca,x),some (cb,y)=>some (andP (optP (fun p=>c0=true→p) cc) (andP (optP (fun p=>c0=true→c=true→p) ca) (optP (fun p=>c0=true→c=false→p) cb)),.d (.sc (.bool (bif c then x else y))))
 |_,_,_=>none
theorem lop_pick [Laid] {c0:Bool} {c x y:Operand} (ho:o.op= .pick c x y) {pr:Option Prop} {g:G} (h:pickG c0 (ρ c) (ρ x) (ρ y)=some (pr,g)) (hp:obP pr) (h0:c0=true):LOp P o ρ H {g:=g} :=by
 unfold pickG at h
 split at h
 ·rename_i cc cv ca xv cb yv e1 e2 e3
  obtain ⟨rfl,rfl⟩:=Prod.mk.inj (Option.some.inj h)
  have p1:=optP_spec (andP_1 hp)
  have p2:=optP_spec (andP_1 (andP_2 hp))
  have p3:=optP_spec (andP_2 (andP_2 hp))
  refine lop_pure fun H' _ ν F w a hv hr=>⟨.bool (bif cv then xv else yv),?_,.d (.sc _ rfl)⟩
  have hc:=boolG_sound e1 (hv c (by simp[ho,Op.operands])) (fun b e=>p1 b e h0)
  cases cv with
  |true=>
   have hx:=boolG_sound e2 (hv x (by simp[ho,Op.operands])) (fun b e=>p2 b e h0 rfl)
   simp[execOp,ho,hc,asBool,hx]
  |false=>
   have hy:=boolG_sound e3 (hv y (by simp[ho,Op.operands])) (fun b e=>p3 b e h0 rfl)
   simp[execOp,ho,hc,asBool,hy]
 ·cases h
theorem VR.sc_eq {ν:Nu} {F:Fz} {w:World} {u v:Value} (h:VR ν F w (.d (.sc u)) v):v=u∧u.oneCell'=true:=by
 cases h with
 |d h=>cases h with
  |sc v h=>exact ⟨rfl,h⟩
theorem lop_bin [Laid] {wr:Bool} {op:BinOp} {t ty:TypeId} {x y:Operand} (hT:TabOK P T) (ho:o.op= .binOp op t x y ty) {u v:Value} (hx:ρ x= .d (.sc u)) (hy:ρ y= .d (.sc v)) {pr:Option Prop} {r:Value}
 (h:binG wr op (tyAt T t) u v=some (pr,r)) (hp:obP pr) (h1:r.oneCell'=true):LOp P o ρ H {g:= .d (.sc r)} :=by
 refine lop_pure fun H' _ ν F w a hv hr=>⟨r,?_,.d (.sc _ h1)⟩
 have e1:=(hx▸hv x (by simp[ho,Op.operands])).sc_eq.1
 have e2:=(hy▸hv y (by simp[ho,Op.operands])).sc_eq.1
 simp only[execOp,ho,e1,e2]
 have:=run_binG (P:=P) (t:=t) (fun e he=>hT t e he) h hp x y w
 simp only[Sem.run_bind]at this⊢
 rw[this]
 rfl
def unG (wr:Bool) (op:UnOp) (x:Value):Option (Option Prop×Value):=
 match op,x with
 | .neg,.int k a=>some (arithG wr k (0-a))
 | .not,.bool b=>some (none,.bool (!b))
 |_,_=>none
theorem lop_un [Laid] {wr:Bool} {op:UnOp} {t:TypeId} {x:Operand} (ho:o.op= .unOp op t x) {u:Value} (hx:ρ x= .d (.sc u)) {pr:Option Prop} {r:Value} (h:unG wr op u=some (pr,r)) (hp:obP pr):LOp P o ρ H {g:= .d (.sc r)} :=by
 unfold unG at h
 split at h
 ·rename_i k b
  have e:r= .int k (k.wrap (0-b)):=by
   cases wr<;>simp only[arithG,Option.some.injEq,Prod.mk.injEq]at h<;>obtain ⟨rfl,rfl⟩:=h
   ·rw[wrap_in hp]
   ·rfl
  subst e
  refine lop_pure fun H' _ ν F w a hv hr=>⟨_,?_,.d (.sc _ rfl)⟩
  have e1:=(hx▸hv x (by simp[ho,Op.operands])).sc_eq.1
  simp[execOp,ho,e1,Op.unary,Op.intArith]
 ·obtain ⟨rfl,rfl⟩:=Prod.mk.inj (Option.some.inj h)
  refine lop_pure fun H' _ ν F w a hv hr=>⟨_,?_,.d (.sc _ rfl)⟩
  have e1:=(hx▸hv x (by simp[ho,Op.operands])).sc_eq.1
  simp[execOp,ho,e1,Op.unary]
 ·cases h
def convG (wr:Bool) (d:TypeDesc) (x:Value):Option (Option Prop×Value):=
 match d,x with
 | .int k,.int _ n=>some (arithG wr k n)
 | .string,.string s=>some (none,.string s)
 |_,_=>none
theorem lop_conv [Laid] {wr:Bool} {src dst:TypeId} {x:Operand} (hT:TabOK P T) (ho:o.op= .convert src dst x) {e1 e2:TyE} (t1:tyAt T src=some e1) (t2:tyAt T dst=some e2) {u:Value} (hx:ρ x= .d (.sc u)) {pr:Option Prop} {r:Value}
 (h:convG wr e2.desc u=some (pr,r)) (hp:obP pr):LOp P o ρ H {g:= .d (.sc r)} :=by
 have k1:=hT _ _ t1
 have k2:=hT _ _ t2
 unfold convG at h
 split at h
 ·rename_i k kk n hd
  have e:r= .int k (k.wrap n):=by
   cases wr<;>simp only[arithG,Option.some.injEq,Prod.mk.injEq]at h<;>obtain ⟨rfl,rfl⟩:=h
   ·rw[wrap_in hp]
   ·rfl
  subst e
  refine lop_pure fun H' _ ν F w a hv hr=>⟨_,?_,.d (.sc _ rfl)⟩
  have e1:=(hx▸hv x (by simp[ho,Op.operands])).sc_eq.1
  simp[execOp,ho,e1,convert,k1.under w,k2.under w,hd,Conv.intToInt]
 ·rename_i s hd
  obtain ⟨rfl,rfl⟩:=Prod.mk.inj (Option.some.inj h)
  refine lop_pure fun H' _ ν F w a hv hr=>⟨_,?_,.d (.sc _ rfl)⟩
  have e1:=(hx▸hv x (by simp[ho,Op.operands])).sc_eq.1
  simp[execOp,ho,e1,convert,k1.under w,k2.under w,hd]
 ·cases h
theorem run_newVar {P:Program} (t:TypeId) (v:Value) (w:World):(do let a ←newVar t v;pure (Value.pointer (some a)):Sem Value).run P w= .ok (.pointer (some ⟨w.heap.size,0,none⟩)) (w.alloc (.cells v.cells t)):=by
 rfl
theorem gop_box [Laid] {v0:(Operand→Value)→Value} {t:TypeId} {nx:Nat} {gs:List G} (hrun:∀a w,(execOp a o).run P w= .ok (.value (.pointer (some ⟨w.heap.size,0,none⟩))) (w.alloc (.cells (v0 a).cells t)))
 (hc:∀(ν:Nu) (F:Fz) (w:World) (a:Act),(∀x,x∈o.op.operands.toList→VR ν F w (ρ x) (a.eval x))→CR ν F w gs (v0 a.eval).cells.toList):
 LOp P o ρ H {g:= .ptr nx 0 0 0,upd:=[(nx,some (.box gs))],new:=[nx]} :=by
 intro H' _ hn
 refine gop_val fun ν F w a hv hr hnew=> ?_
 have hν:=hnew nx (by simp)
 have hk:Keep F w F (w.alloc (.cells (v0 a.eval).cells t)):=keep_alloc (fun b o hb=>hr.old_lt hb) _
 have hbr:BR (addNu ν nx w.heap.size 0) F (w.alloc (.cells (v0 a.eval).cells t)) (some (w.heap.size,0)) (.box gs):=by
  have:=((hc ν F w a hv).keep hk (More.add (r:=w.heap.size) (k:=0) hν)).box (r:=w.heap.size) (k:=0) (T:=t) (by simpa using heap_alloc_new w _) (fun o ho=>by have:=hr.old_lt ho;omega)
  exact this
 obtain ⟨h1,h2⟩:=hr.add hν (hn nx (by simp)) _ hbr
 refine ⟨_,_,addNu ν nx w.heap.size 0,F,hrun a.eval w,?_,h1,More.add hν,fun i hi=> ?_,h2⟩
 ·have:=VR.ptr (F:=F) (w:=w.alloc (.cells (v0 a.eval).cells t)) nx 0 0 0 w.heap.size 0 (addNu_same ν nx w.heap.size 0)
  simpa using this
 ·by_cases e:i=nx
  ·simp[e]
  ·exact absurd (addNu_other ν e) hi
def zeroCellsG (v:Value):List G:=v.cells.toList.map fun u=> .d (.sc u)
def zeroO:List Value→Option (List G)
 | []=>some []
 |v::l=>match zeroO l with
  |some r=>some (.d (.sc v)::r)
  |none=>none
theorem zeroO_eq:∀(l:List Value) (r:List G),zeroO l=some r→r=l.map fun u=> .d (.sc u):=by
 intro l
 induction l with
 |nil=>intro r h;simp only[zeroO,Option.some.injEq]at h;subst h;rfl
 |cons v l ih=>
  intro r h
  simp only[zeroO]at h
  split at h
  ·rename_i r' hr;cases h;rw[ih r' hr];rfl
  ·cases h
def allOne (v:Value):Bool:=v.cells.toList.all (·.oneCell')
theorem zero_CR {ν:Nu} {F:Fz} {w:World} {v:Value} (h:allOne v=true):CR ν F w (zeroCellsG v) v.cells.toList:=by
 simp only[allOne,List.all_eq_true]at h
 refine ⟨by simp[zeroCellsG],h,fun j g u a b=> ?_⟩
 simp only[zeroCellsG,List.getElem?_map,b,Option.map_some]at a
 injection a with a;subst a
 exact .d (.sc u (h u (List.mem_of_getElem? b)))
theorem lop_alloc [Laid] {t:TypeId} (hT:TabOK P T) (ho:o.op= .alloc t) {e:TyE} (te:tyAt T t=some e) (h1:allOne e.zero=true) (nx:Nat):
 LOp P o ρ H {g:= .ptr nx 0 0 0,upd:=[(nx,some (.box (zeroCellsG e.zero)))],new:=[nx]} :=by
 refine gop_box (v0:=fun _=>e.zero) (t:=t) (fun a w=> ?_) (fun ν F w a _=>zero_CR h1)
 have:=(hT _ _ te).zeroV w
 have k:=run_newVar (P:=P) t e.zero w
 simp only[Sem.run_bind,Sem.run_pure]at k
 simp only[execOp,ho,Instr.alloc,Sem.run_bind,this,Result.andThen_ok,k,Sem.run_pure]
theorem lop_box [Laid] {t:TypeId} {x:Operand} (ho:o.op= .box t x) {gs:List G} (hx:cellsG (ρ x)=some gs) (nx:Nat):
 LOp P o ρ H {g:= .ptr nx 0 0 0,upd:=[(nx,some (.box gs))],new:=[nx]} :=by
 refine gop_box (v0:=fun a=>a x) (t:=t) (fun a w=> ?_) (fun ν F w a hv=>(hv x (by simp[ho,Op.operands])).cells hx)
 have k:=run_newVar (P:=P) t (a x) w
 simp only[Sem.run_bind,Sem.run_pure]at k
 simp only[execOp,ho,Instr.box,Sem.run_bind,k,Result.andThen_ok,Sem.run_pure]
theorem run_load_agg {t:TypeId} {e:TyE} (hT:TyOK P t e) (ha:aggD e.desc=true) (w:World) (r f:Nat) (vs:List Value) (hl:vs.length=e.size) (h:∀(j:Nat) v,vs[j]? =some v→w.cell? ⟨r,f+j,none⟩=some v):
 (Instr.loadAt t (.pointer (some ⟨r,f,none⟩))).run P w= .ok (.agg vs.toArray) w:=by
 have:=run_loadCells_list (P:=P) w ⟨r,f,none⟩ vs (fun j v hv=>by rw[addr_add];exact h j v hv)
 simp only[Instr.loadAt,Instr.sureAddr,loadVar,Sem.run_bind,Sem.run_pure,Result.andThen_ok,hT.isAgg w,ha,if_true,hT.sizeOf w,←hl,this]
theorem run_load_one {t:TypeId} {e:TyE} (hT:TyOK P t e) (ha:aggD e.desc=false) (w:World) (r f:Nat) (v:Value) (h:w.cell? ⟨r,f,none⟩=some v):
 (Instr.loadAt t (.pointer (some ⟨r,f,none⟩))).run P w= .ok v w:=by
 simp only[Instr.loadAt,Instr.sureAddr,loadVar,Sem.run_bind,Sem.run_pure,Result.andThen_ok,hT.isAgg w,ha]
 simp[h]
def takeO:Nat→List G→Option (List G)
 |0,_=>some []
 |_+1,[]=>none
 |n+1,g::l=>match takeO n l with
  |some r=>some (g::r)
  |none=>none
def cutO:Nat→Nat→List G→Option (List G)
 |0,n,l=>takeO n l
 |_+1,_,[]=>none
 |f+1,n,_::l=>cutO f n l
theorem takeO_eq:∀(n:Nat) (l r:List G),takeO n l=some r→n≤l.length∧r=l.take n:=by
 intro n
 induction n with
 |zero=>intro l r h;simp only[takeO,Option.some.injEq]at h;subst h;simp
 |succ n ih=>
  intro l r h
  cases l with
  |nil=>cases h
  |cons g l=>
   simp only[takeO]at h
   split at h
   ·rename_i r' hr
    cases h
    obtain ⟨h1,h2⟩:=ih l r' hr
    subst h2
    simp;omega
   ·cases h
theorem cutO_eq:∀(f n:Nat) (l r:List G),cutO f n l=some r→f+n≤l.length∧r=(l.drop f).take n:=by
 intro f
 induction f with
 |zero=>intro n l r h;have:=takeO_eq n l r h;simpa using this
 |succ f ih=>
  intro n l r h
  cases l with
  |nil=>cases h
  |cons g l=>
   obtain ⟨h1,h2⟩:=ih n l r h
   subst h2
   simp;omega
def G.out {α:Type 2} (g:G) (k:G→α):α:=
 match g with
 | .d x=>k (.d x)
 | .ptr b es i f=>k (.ptr b es i f)
 | .sl b es i n=>k (.sl b es i n)
 | .ep cells=>k (.ep cells)
 | .fn f a b=>k (.fn f a b)
 | .agg cells=>k (.agg cells)
 | .tup vs=>k (.tup vs)
 | .iface t g=>k (.iface t g)
 | .mp b=>k (.mp b)
 | .opt c g=>k (.opt c g)
 | .ex v g=>k (.ex v g)
 | .junk=>k .junk
def G.nf:G→Option G
 | .d (.sc v)=>some (.d (.sc v))
 | .d (.row df cs xs)=>some (.d (.row df cs xs))
 | .ptr b es i f=>some (.ptr b es i f)
 | .sl b es i n=>some (.sl b es i n)
 | .ep cells=>some (.ep cells)
 | .fn f a b=>some (.fn f a b)
 | .agg cells=>some (.agg cells)
 | .tup vs=>some (.tup vs)
 | .iface t g=>some (.iface t g)
 | .mp b=>some (.mp b)
 | .opt c g=>some (.opt c g)
 | .ex v g=>some (.ex v g)
 | .junk=>some .junk
theorem G.nf_eq {g g':G} (h:g.nf=some g'):g'=g:=by
 unfold G.nf at h
 split at h<;>(cases h;rfl)
def atO:Nat→List G→Option G
 |_,[]=>none
 |0,g::_=>g.nf
 |n+1,_::l=>atO n l
theorem atO_eq:∀(n:Nat) (l:List G) (g:G),atO n l=some g→l[n]? =some g:=by
 intro n
 induction n with
 |zero=>intro l g h;cases l with
  |nil=>cases h
  |cons a l=>have:=G.nf_eq h;subst this;rfl
 |succ n ih=>intro l g h;cases l with
  |nil=>cases h
  |cons a l=>exact ih l g h
def partG (agg:Bool) (size f:Nat) (cells:List G):Option G:=
 match agg with
 |true=>match cutO f size cells with
  |some l=>some (.agg l)
  |none=>none
 |false=>atO f cells
theorem partG_inv {agg:Bool} {size f:Nat} {cells:List G} {g:G} (h:partG agg size f cells=some g):(agg=true∧f+size≤cells.length∧g= .agg ((cells.drop f).take size))∨(agg=false∧cells[f]? =some g):=by
 cases agg with
 |true=>
  simp only[partG]at h
  split at h
  ·rename_i l hl
   cases h
   obtain ⟨h1,h2⟩:=cutO_eq _ _ _ _ hl
   subst h2
   exact .inl ⟨rfl,h1,rfl⟩
  ·cases h
 |false=>exact .inr ⟨rfl,atO_eq _ _ _ h⟩
def loadG (e:TyE) (g:G) (H:Hp):Option (Option Prop×G×List Nat):=
 match g with
 | .ptr b es i f=>
   match H b with
   |some (.box cells)=>match i,partG (aggD e.desc) e.size f cells with
    |0,some r=>some (none,r,[b])
    |_,_=>none
   |some (.row ty es' df cs xs fz)=>match partG (aggD e.desc) e.size f ((cs (xs.getD i df)).map .d)with
    |some r=>some (some (i<xs.length∧es=es'),r,[b])
    |none=>none
   |_=>none
 | .ep cells=>match partG (aggD e.desc) e.size 0 (cells.map .d)with
   |some r=>some (none,r,[])
   |none=>none
 |_=>none
theorem part_load {t:TypeId} {e:TyE} (hT:TyOK P t e) {ν:Nu} {F:Fz} {w:World} {gs:List G} {vs:List Value} (hc:CR ν F w gs vs) {f:Nat} {g:G} (h:partG (aggD e.desc) e.size f gs=some g) {r off:Nat}
 (hw:∀(j:Nat) v,vs[j]? =some v→w.cell? ⟨r,off+j,none⟩=some v):∃v,(Instr.loadAt t (.pointer (some ⟨r,off+f,none⟩))).run P w= .ok v w∧VR ν F w g v:=by
 rcases partG_inv h with ⟨ha,hle,rfl⟩|⟨ha,h⟩
 ·refine ⟨.agg ((vs.drop f).take e.size).toArray,run_load_agg hT ha w r (off+f) _ (by rw[List.length_take,List.length_drop,hc.len];omega) (fun j v hv=> ?_),((hc.drop f).take e.size).agg⟩
  rw[List.getElem?_take]at hv
  split at hv
  ·rw[List.getElem?_drop]at hv
   have:=hw _ _ hv
   rw[show off+f+j=off+(f+j)by omega];exact this
  ·cases hv
 ·obtain ⟨u,hu,hv⟩:=hc.at_ h
  exact ⟨u,run_load_one hT ha w r (off+f) u (hw _ _ hu),hv⟩
theorem lop_load [Laid] {t:TypeId} {x:Operand} (hT:TabOK P T) (ho:o.op= .load t x) {e:TyE} (te:tyAt T t=some e) {pr:Option Prop} {g:G} {fp:List Nat} (h:loadG e (ρ x) H=some (pr,g,fp)) (hp:obP pr):LOp P o ρ H {g:=g,fp:=fp} :=by
 have k:=hT _ _ te
 have hx:x∈o.op.operands.toList:=by simp[ho,Op.operands]
 have exec:∀(a:Act) w v,(Instr.loadAt t (a.eval x)).run P w= .ok v w→(execOp a.eval o).run P w= .ok (.value v) w:=fun a w v hv=>by simp only[execOp,ho,Sem.run_bind,hv,Result.andThen_ok,Sem.run_pure]
 unfold loadG at h
 split at h
 ·rename_i b es i f hρ
  split at h
  ·rename_i cells hH
   split at h
   ·rename_i r hpart
    simp only[Option.some.injEq,Prod.mk.injEq]at h
    obtain ⟨rfl,rfl,rfl⟩:=h
    refine lop_pure fun H' hf ν F w a hv hr=> ?_
    have hH':=(hf b (by simp)).trans hH
    obtain ⟨r,q,vs,T',e1,e2,hc,_⟩:=(hr.blk b _ hH').box_cells
    have hv1:=hv x hx
    have exec':=exec a
    rw[hρ]at hv1
    generalize a.eval x=u at hv1 exec'
    cases hv1 with
    |ptr _ _ _ _ r' k' he=>
    rw[e1]at he;injection he with he;injection he with he1 he2;subst he1
    obtain ⟨v,h1,h2⟩:=part_load k hc hpart (r:=r) (off:=0) (fun j v hj=>by rw[Nat.zero_add,cell_at e2];simpa using hj)
    exact ⟨v,exec' w v (by rw[Nat.zero_mul];exact h1),h2⟩
   ·cases h
  ·rename_i α ty es' df cs xs fz hH
   split at h
   ·rename_i r hpart
    simp only[Option.some.injEq,Prod.mk.injEq]at h
    obtain ⟨rfl,rfl,rfl⟩:=h
    obtain ⟨hi,rfl⟩:=hp
    refine lop_pure fun H' hf ν F w a hv hr=> ?_
    have hH':=(hf b (by simp)).trans hH
    have exec':=exec a
    have hv1:=hv x hx
    rw[hρ]at hv1
    generalize a.eval x=u at hv1 exec'
    cases hv1 with
    |ptr _ _ _ _ r' k' he=>
    rcases hr.blk b _ hH' with ⟨q1,q2,_⟩|⟨r,q,arr,e1,e2,_,e3,e4,e5,e6,e7,_⟩
    ·rw[q1]at he;cases he
    ·rw[e1]at he;injection he with he;injection he with he1 he2;subst he1
     have hx':xs[i]? =some (xs.getD i df):=by simp[List.getElem?_eq_getElem hi]
     have hc:CR ν F w ((cs (xs.getD i df)).map .d) ((arr.toList.drop (i*es)).take es):=by
      have hlen:=e5 (xs.getD i df) (List.mem_of_getElem? hx')
      have hle:(i+1)*es≤arr.toList.length:=by
       have:arr.toList.length=q*es:=by simpa using e3
       rw[this];exact Nat.mul_le_mul_right es (by omega)
      rw[Nat.succ_mul]at hle
      refine ⟨by rw[List.length_take,List.length_drop,List.length_map,hlen];omega,fun u hu=>e6 u (List.mem_of_mem_drop (List.mem_of_mem_take hu)),fun j g u a b=> ?_⟩
      rw[List.getElem?_map]at a
      cases hj:(cs (xs.getD i df))[j]? with
      |none=>rw[hj]at a;cases a
      |some d=>
       rw[hj]at a;simp only[Option.map_some]at a;injection a with a;subst a
       rw[List.getElem?_take]at b
       split at b
       ·rw[List.getElem?_drop]at b
        exact .d (e7 i _ j d u hx' hj (by simpa using b))
       ·cases b
     obtain ⟨v,h1,h2⟩:=part_load k hc hpart (r:=r) (off:=i*es) (fun j v hj=>by
      rw[cell_at e2]
      rw[List.getElem?_take]at hj
      split at hj
      ·rw[List.getElem?_drop]at hj;simpa using hj
      ·cases hj)
     exact ⟨v,exec' w v h1,h2⟩
   ·cases h
  ·cases h
 ·rename_i cells hρ
  split at h
  ·rename_i r hpart
   simp only[Option.some.injEq,Prod.mk.injEq]at h
   obtain ⟨rfl,rfl,rfl⟩:=h
   refine lop_pure fun H' hf ν F w a hv hr=> ?_
   have exec':=exec a
   have hv1:=hv x hx
   rw[hρ]at hv1
   generalize a.eval x=u at hv1 exec'
   cases hv1 with
   |ep _ b off val hw hF hd=>
   have hc:CR ν F w (cells.map .d) ((List.range cells.length).map val):=by
    have hval:∀j u,((List.range cells.length).map val)[j]? =some u→∃d,cells[j]? =some d∧u=val j:=fun j u hu=>by
     rw[List.getElem?_map]at hu
     cases hj:(List.range cells.length)[j]? with
     |none=>rw[hj]at hu;cases hu
     |some j'=>
      rw[hj]at hu;simp only[Option.map_some]at hu;injection hu with hu
      have hlt:j<cells.length:=by simpa using (List.getElem?_eq_some_iff.1 hj).1
      rw[List.getElem?_range hlt]at hj;injection hj with hj;subst hj
      exact ⟨cells[j],List.getElem?_eq_getElem hlt,hu.symm⟩
    refine ⟨by simp,fun u hu=> ?_,fun j g u a b=> ?_⟩
    ·obtain ⟨j,hj⟩:=List.getElem?_of_mem hu
     obtain ⟨d,h1,rfl⟩:=hval j u hj
     exact (hd j d h1).one
    ·obtain ⟨d,h1,rfl⟩:=hval j u b
     rw[List.getElem?_map,h1]at a;simp only[Option.map_some]at a;injection a with a;subst a
     exact .d (hd j d h1)
   obtain ⟨v,h1,h2⟩:=part_load k hc hpart (r:=b) (off:=off) (fun j v hj=>by
    rw[List.getElem?_map]at hj
    cases hj':(List.range cells.length)[j]? with
    |none=>rw[hj']at hj;cases hj
    |some j'=>
     rw[hj']at hj;simp only[Option.map_some]at hj;injection hj with hj
     have hlt:j<cells.length:=by simpa using (List.getElem?_eq_some_iff.1 hj').1
     rw[List.getElem?_range hlt]at hj';injection hj' with hj';subst hj'
     rw[hw j _ (List.getElem?_eq_getElem hlt),hj])
   exact ⟨v,exec' w v h1,h2⟩
  ·cases h
 ·cases h
end
end Go.Gh
namespace Go.Gh
open Go Go.RowKit
set_option linter.unusedVariables false
theorem VR.ptr_inv {ν:Nu} {F:Fz} {w:World} {b es i f:Nat} {v:Value} (h:VR ν F w (.ptr b es i f) v):∃r k,ν b=some (r,k)∧v= .pointer (some ⟨r,i*es+f,none⟩):=by
 cases h with
 |ptr _ _ _ _ r k he=>exact ⟨r,k,he,rfl⟩
theorem VR.ep_inv {ν:Nu} {F:Fz} {w:World} {cells:List D} {v:Value} (h:VR ν F w (.ep cells) v):∃(b off:Nat) (val:Nat→Value),v= .pointer (some ⟨b,off,none⟩)∧(∀(j:Nat) x,cells[j]? =some x→w.cell? ⟨b,off+j,none⟩=some (val j))∧
 (∀(j:Nat) x,cells[j]? =some x→F b (off+j))∧(∀(j:Nat) x,cells[j]? =some x→DR F w x (val j)):=by
 cases h with
 |ep _ b off val hw hF h=>exact ⟨b,off,val,rfl,hw,hF,h⟩
theorem VR.agg_inv {ν:Nu} {F:Fz} {w:World} {cells:List G} {v:Value} (h:VR ν F w (.agg cells) v):∃cs:Array Value,v= .agg cs∧CR ν F w cells cs.toList:=by
 cases h with
 |agg _ cs h1 hc k=>exact ⟨cs,rfl,⟨by simpa using h1,hc,fun j g u a b=>k j g u a (by simpa using b)⟩⟩
theorem VR.row_inv {ν:Nu} {F:Fz} {w:World} {α:Type} {df:α} {cells:α→List D} {xs:List α} {v:Value} (h:VR ν F w (.d (.row df cells xs)) v):∃(A:Option Addr) (c b off es:Nat) (val:Nat→Nat→Value),v= .slice A xs.length c∧
 (xs≠ []→A=some ⟨b,off,none⟩)∧xs.length≤c∧(∀e,e∈xs→(cells e).length=es)∧
 (∀(i:Nat) e (j:Nat) x,xs[i]? =some e→(cells e)[j]? =some x→w.cell? ⟨b,off+i*es+j,none⟩=some (val i j))∧
 (∀(i:Nat) e (j:Nat) x,xs[i]? =some e→(cells e)[j]? =some x→F b (off+i*es+j))∧
 (∀(i:Nat) e (j:Nat) x,xs[i]? =some e→(cells e)[j]? =some x→DR F w x (val i j)):=by
 cases h with
 |d h=>cases h with
  |row _ _ _ A c b off es val hA hc hl hw hF hdr=>exact ⟨A,c,b,off,es,val,rfl,hA,hc,hl,hw,hF,hdr⟩
theorem VR.sl_inv {ν:Nu} {F:Fz} {w:World} {b es i n:Nat} {v:Value} (h:VR ν F w (.sl b es i n) v):∃(A:Option Addr) (c:Nat),v= .slice A n c∧(0<n→∃r k,ν b=some (r,k)∧A=some ⟨r,i*es,none⟩∧i+n≤k∧c=k-i)∧
 (n=0→i=0→(∃r k,ν b=some (r,k)∧A=some ⟨r,0,none⟩∧c=k)∨(A=none∧c=0))∧n≤c:=by
 cases h with
 |sl _ _ _ _ A c h1 h2 h3=>exact ⟨A,c,rfl,h1,h2,h3⟩
theorem VR.sl_inv4 {ν:Nu} {F:Fz} {w:World} {b es i n m c:Nat} {A:Option Addr} (h:VR ν F w (.sl b es i n) (.slice A m c)):n=0→0<i→c=0∨∃r k,ν b=some (r,k)∧A=some ⟨r,i*es,none⟩∧i≤k∧c=k-i:=by
 cases h with
 |sl _ _ _ _ A c h1 h2 h3 h4=>exact h4
section
variable {P:Program} {T:Tab} {o:Oper} {ρ:Operand→G} {H:Hp}
def putO:Nat→List G→List G→Option (List G)
 |0,[],l=>some l
 |0,g::gs,_::l=>match putO 0 gs l with
  |some r=>some (g::r)
  |none=>none
 |0,_::_,[]=>none
 |_+1,_,[]=>none
 |f+1,gs,x::l=>match putO f gs l with
  |some r=>some (x::r)
  |none=>none
theorem putO_eq0:∀(gs l r:List G),putO 0 gs l=some r→gs.length≤l.length∧r=gs++l.drop gs.length:=by
 intro gs
 induction gs with
 |nil=>intro l r h;simp only[putO,Option.some.injEq]at h;subst h;simp
 |cons g gs ih=>
  intro l r h
  cases l with
  |nil=>simp only[putO]at h;cases h
  |cons x l=>
   simp only[putO]at h
   split at h
   ·rename_i r' hr
    cases h
    obtain ⟨h1,h2⟩:=ih l r' hr
    subst h2
    simp;omega
   ·cases h
theorem putO_eq:∀(f:Nat) (gs l r:List G),putO f gs l=some r→f+gs.length≤l.length∧r=l.take f++gs++l.drop (f+gs.length):=by
 intro f
 induction f with
 |zero=>intro gs l r h;have:=putO_eq0 gs l r h;simpa using this
 |succ f ih=>
  intro gs l r h
  cases l with
  |nil=>simp only[putO]at h;cases h
  |cons x l=>
   simp only[putO]at h
   split at h
   ·rename_i r' hr
    cases h
    obtain ⟨h1,h2⟩:=ih gs l r' hr
    subst h2
    have e:f+1+gs.length=(f+gs.length)+1:=by omega
    rw[e]
    simp;omega
   ·cases h
def fitB:Option (List G)→Nat→Nat→List G→Option (List G)
 |some gs,size,f,cells=>bif Nat.beq gs.length size then putO f gs cells else none
 |none,_,_,_=>none
theorem fitB_inv {og:Option (List G)} {size f:Nat} {cells cs:List G} (h:fitB og size f cells=some cs):∃gs,og=some gs∧gs.length=size∧f+size≤cells.length∧cs=cells.take f++gs++cells.drop (f+size):=by
 cases og with
 |none=>cases h
 |some gs=>
  simp only[fitB]at h
  cases hb:Nat.beq gs.length size with
  |false=>rw[hb]at h;cases h
  |true=>
   rw[hb]at h
   have:=Nat.eq_of_beq_eq_true hb
   subst this
   obtain ⟨h1,h2⟩:=putO_eq _ _ _ _ h
   exact ⟨gs,rfl,rfl,h1,h2⟩
def storeG (e:TyE) (ga gv:G) (H:Hp):Option (List (Nat×Option Blk)×List Nat):=
 match ga with
 | .ptr b es 0 f=>
   match H b with
   |some (.box cells)=>match fitB (cellsG gv) e.size f cells with
    |some cs=>some ([(b,some (.box cs))],[b])
    |none=>none
   |_=>none
 |_=>none
theorem lop_store [Laid] {t:TypeId} {x y:Operand} (hT:TabOK P T) (ho:o.op= .store t x y) {e:TyE} (te:tyAt T t=some e) {upd:List (Nat×Option Blk)} {fp:List Nat} (h:storeG e (ρ x) (ρ y) H=some (upd,fp)):
 LOp P o ρ H {g:= .junk,upd:=upd,fp:=fp} :=by
 have k:=hT _ _ te
 unfold storeG at h
 split at h
 ·rename_i b es f hρ
  split at h
  ·rename_i cells hH
   split at h
   ·rename_i cs hfit
    simp only[Option.some.injEq,Prod.mk.injEq]at h
    obtain ⟨rfl,rfl⟩:=h
    obtain ⟨gs,hgs,hsz,hle,rfl⟩:=fitB_inv hfit
    intro H' hf hn
    refine gop_skip fun ν F w a hv hr=> ?_
    have hH':=(hf b (by simp)).trans hH
    obtain ⟨r,q,arr,T',e1,e2,hc,hF⟩:=(hr.blk b _ hH').box_cells
    have hx:=hv x (by simp[ho,Op.operands])
    have hy:=(hv y (by simp[ho,Op.operands])).cells hgs
    rw[hρ]at hx
    obtain ⟨r',k',he,hxe⟩:=hx.ptr_inv
    rw[e1]at he;injection he with he;injection he with he1 he2;subst he1
    have hlen:arr.toList.length=cells.length:=hc.len
    have hsize:arr.size=arr.toList.length:=by simp
    have hlv:(a.eval y).cells.toList.length=e.size:=by rw[hy.len,hsz]
    have hrun:=run_storeCells_at (P:=P) r f T' (a.eval y).cells.toList 0 arr w e2 (by rw[hlv];omega) hy.one
    refine ⟨w.setRow r (arr.toList.take (f+0)++(a.eval y).cells.toList++arr.toList.drop (f+0+(a.eval y).cells.toList.length)).toArray,?_,?_⟩
    ·have hcs:¬((a.eval y).cells.size≠e.size):=by
      have:(a.eval y).cells.size=(a.eval y).cells.toList.length:=by simp
      rw[this,hlv];simp
     simp only[execOp,ho,Instr.storeAt,hxe,Instr.sureAddr,Sem.run_bind,Sem.run_pure,Result.andThen_ok,storeVar,k.sizeOf w,Nat.zero_mul,Nat.zero_add]
     rw[if_neg hcs]
     rw[hrun]
     rfl
    ·generalize hvs:(arr.toList.take (f+0)++(a.eval y).cells.toList++arr.toList.drop (f+0+(a.eval y).cells.toList.length))=vs
     have hk:Keep F w F (w.setRow r vs.toArray):=⟨fun _ _ h=>h,fun b' o' hb'=>by
      have hne:b'≠r:=fun e=>hF o' (e▸hb')
      simp only[World.cell?,setRow_other w r b' _ hne],fun b' o' hb'=>szAt_of (setRow_other w r b' _ (fun e=>hF o' (e▸hb')))⟩
     have hcr0:CR ν F w (cells.take f++gs++cells.drop (f+e.size)) vs:=by
      rw[←hvs,hlv]
      exact ((hc.take f).append hy).append (hc.drop (f+e.size))
     have hcr:=hcr0.keep hk (More.refl _)
     exact hr.put hH' e1 (fun r' hr'=>setRow_other w r r' _ hr') (by simp[World.setRow]) (fun o ho'=>absurd ho' (hF o)) rfl rfl rfl (hcr.box (setRow_heap w r arr _ T' (0,0) e2) hF) (fun o ho'=>absurd ho' (hF o))
   ·cases h
  ·cases h
 ·cases h
def fieldOf (e:TyE) (k:Nat):Option Field:=
 match e.desc with
 | .struct fs=>fs[k]?
 |_=>none
def fieldAddrG (f:Field) (fe:TyE) (g:G):Option G:=
 bif Nat.beq fe.size 0 then none else
 match g with
 | .ptr b es i off=>some (.ptr b es i (off+f.offset))
 | .ep cells=>some (.ep (cells.drop f.offset))
 |_=>none
theorem ptr_nonnull {ν:Nu} {F:Fz} {w:World} {g:G} {v:Value} (h:VR ν F w g v) {f:Field} {fe:TyE} {g':G} (hg:fieldAddrG f fe g=some g'):
 ∃ad off,v= .pointer (some ⟨ad,off,none⟩)∧VR ν F w g' (.pointer (some ⟨ad,off+f.offset,none⟩)):=by
 unfold fieldAddrG at hg
 cases hz:Nat.beq fe.size 0 with
 |true=>rw[hz]at hg;cases hg
 |false=>
  rw[hz]at hg
  simp only[cond_false]at hg
  split at hg
  ·cases hg
   obtain ⟨r,k,he,hv⟩:=h.ptr_inv
   exact ⟨r,_,hv,by rw[Nat.add_assoc];exact .ptr _ _ _ _ r k he⟩
  ·cases hg
   obtain ⟨b,off,val,hv,h1,h2,h3⟩:=h.ep_inv
   refine ⟨b,off,hv,.ep _ _ _ (fun j=>val (f.offset+j)) (fun j x hj=> ?_) (fun j x hj=> ?_) (fun j x hj=> ?_)⟩<;>rw[List.getElem?_drop]at hj
   ·rw[Nat.add_assoc];exact h1 _ _ hj
   ·rw[Nat.add_assoc];exact h2 _ _ hj
   ·exact h3 _ _ hj
  ·cases hg
theorem lop_fieldAddr [Laid] {t:TypeId} {x:Operand} {n:Nat} (hT:TabOK P T) (ho:o.op= .fieldAddr t x n) {e:TyE} (te:tyAt T t=some e) {f:Field} (hf:fieldOf e n=some f) {fe:TyE} (tf:tyAt T f.type=some fe) {g:G}
 (h:fieldAddrG f fe (ρ x)=some g):LOp P o ρ H {g:=g} :=by
 have k:=hT _ _ te
 have kf:=hT _ _ tf
 refine lop_pure fun H' _ ν F w a hv hr=> ?_
 obtain ⟨ad,off,h1,h2⟩:=ptr_nonnull (hv x (by simp[ho,Op.operands])) h
 refine ⟨_,?_,h2⟩
 have hz:¬fe.size=0:=by
  intro hz
  simp only[fieldAddrG,hz,Nat.beq_refl,cond_true]at h
  cases h
 unfold fieldOf at hf
 split at hf
 ·rename_i fs hd
  simp only[execOp,ho,Instr.fieldAt,Sem.run_bind,k.under w,Result.andThen_ok,hd,hf,h1,Instr.sureAddr,Sem.run_pure,fieldPlace,kf.sizeOf w]
  rw[if_neg hz]
  simp only[Sem.run_pure,Result.andThen_ok,addr_add]
 ·cases hf
theorem run_part {t:TypeId} {e:TyE} (hT:TyOK P t e) {ν:Nu} {F:Fz} {w:World} {gs:List G} {cs:Array Value} (hc:CR ν F w gs cs.toList) {f:Nat} {g:G} (h:partG (aggD e.desc) e.size f gs=some g):∃v,(part t cs f).run P w= .ok v w∧VR ν F w g v:=by
 rcases partG_inv h with ⟨ha,hle,rfl⟩|⟨ha,h⟩
 ·refine ⟨.agg (cs.extract f (f+e.size)),?_,?_⟩
  ·simp only[part,Sem.run_bind,hT.isAgg w,ha,Result.andThen_ok,if_true,hT.sizeOf w,Sem.run_pure]
  ·have:=((hc.drop f).take e.size).agg
   have e1:((cs.toList.drop f).take e.size).toArray=cs.extract f (f+e.size):=by
    apply Array.ext'
    simp
   rw[e1]at this;exact this
 ·obtain ⟨u,hu,hv⟩:=hc.at_ h
  have hu':cs[f]? =some u:=by simpa using hu
  exact ⟨u,by simp[part,hT.isAgg w,ha,hu'],hv⟩
def fieldG (f:Field) (fe:TyE) (g:G):Option G:=
 match g with
 | .agg cells=>partG (aggD fe.desc) fe.size f.offset cells
 |_=>none
theorem lop_field [Laid] {t:TypeId} {x:Operand} {n:Nat} (hT:TabOK P T) (ho:o.op= .field t x n) {e:TyE} (te:tyAt T t=some e) {f:Field} (hf:fieldOf e n=some f) {fe:TyE} (tf:tyAt T f.type=some fe) {g:G}
 (h:fieldG f fe (ρ x)=some g):LOp P o ρ H {g:=g} :=by
 have k:=hT _ _ te
 have kf:=hT _ _ tf
 unfold fieldG at h
 split at h
 ·rename_i cells hρ
  refine lop_pure fun H' _ ν F w a hv hr=> ?_
  have hx:=hv x (by simp[ho,Op.operands])
  rw[hρ]at hx
  obtain ⟨cs,h1,h2⟩:=hx.agg_inv
  obtain ⟨v,h3,h4⟩:=run_part kf h2 h
  refine ⟨v,?_,h4⟩
  unfold fieldOf at hf
  split at hf
  ·rename_i fs hd
   simp only[execOp,ho,Instr.field,Sem.run_bind,k.under w,Result.andThen_ok,hd,hf,h1,asAgg,Sem.run_pure,h3]
  ·cases hf
 ·cases h
theorem lop_extract [Laid] {x:Operand} {n:Nat} (ho:o.op= .extract x n) {vs:List G} (hρ:ρ x= .tup vs) {g:G} (h:vs[n]? =some g):LOp P o ρ H {g:=g} :=by
 refine lop_pure fun H' _ ν F w a hv hr=> ?_
 have hx:=hv x (by simp[ho,Op.operands])
 rw[hρ]at hx
 cases hxe:a.eval x<;>rw[hxe]at hx<;>cases hx
 rename_i us h1 k
 have hn:n<us.size:=by rw[h1];exact (List.getElem?_eq_some_iff.1 h).1
 refine ⟨us[n],?_,k n g _ h (by simp[hn])⟩
 simp[execOp,ho,Instr.extract,hxe,hn]
def idxOf:G→Option (IntKind×Int)
 | .d (.sc (.int k n))=>some (k,n)
 |_=>none
theorem idxOf_sound {g:G} {k:IntKind} {n:Int} (h:idxOf g=some (k,n)) {ν:Nu} {F:Fz} {w:World} {v:Value} (hv:VR ν F w g v):v= .int k n:=by
 unfold idxOf at h
 split at h
 ·cases h;exact hv.sc_eq.1
 ·cases h
def indexAddrG (es:Nat) (g:G) (n:Int):Option (Option Prop×G):=
 match g with
 | .d (.row df cs xs)=>some (some (0≤n∧n<xs.length∧(cs (xs.getD n.toNat df)).length=es),.ep (cs (xs.getD n.toNat df)))
 | .sl b es' i m=>some (some (0≤n∧n<m∧es'=es),.ptr b es' (i+n.toNat) 0)
 |_=>none
theorem lop_indexAddr [Laid] {t:TypeId} {x y:Operand} (hT:TabOK P T) (ho:o.op= .indexAddr t x y) {e:TyE} (te:tyAt T t=some e) {el:TypeId} (hd:e.desc= .slice el) {ee:TyE} (tee:tyAt T el=some ee) {k:IntKind} {n:Int} (hy:idxOf (ρ y)=some (k,n))
 {pr:Option Prop} {g:G} (h:indexAddrG ee.size (ρ x) n=some (pr,g)) (hp:obP pr):LOp P o ρ H {g:=g} :=by
 have kt:=hT _ _ te
 have ke:=hT _ _ tee
 refine lop_pure fun H' _ ν F w a hv hr=> ?_
 have hye:=idxOf_sound hy (hv y (by simp[ho,Op.operands]))
 have hx:=hv x (by simp[ho,Op.operands])
 have run:∀(r off len c:Nat),a.eval x= .slice (some ⟨r,off,none⟩) len c→0≤n→n<len→(execOp a.eval o).run P w= .ok (.value (.pointer (some ⟨r,off+n.toNat*ee.size,none⟩))) w:=fun r off len c h1 h2 h3=>by
  simp only[execOp,ho,Instr.indexAt,Sem.run_bind,hye,asIntOf,Sem.run_pure,Result.andThen_ok,kt.under w,hd,h1]
  rw[if_pos ⟨h2,h3⟩]
  simp only[Sem.run_bind,Sem.run_pure,Result.andThen_ok,ke.sizeOf w,addr_add]
 unfold indexAddrG at h
 split at h
 ·rename_i α df cs xs hρ
  obtain ⟨rfl,rfl⟩:=Prod.mk.inj (Option.some.inj h)
  obtain ⟨h0,h1,h2⟩:=hp
  rw[hρ]at hx
  obtain ⟨A,c,b,off,es,val,hxe,hA,hc,hl,hw,hF,hdr⟩:=hx.row_inv
  have hi:n.toNat<xs.length:=by omega
  have hx':xs[n.toNat]? =some (xs.getD n.toNat df):=by simp[List.getElem?_eq_getElem hi]
  have hes:=hl _ (List.mem_of_getElem? hx')
  rw[h2]at hes;subst hes
  have hAe:=hA (by intro e;rw[e]at hi;simp at hi)
  subst hAe
  refine ⟨_,run b off xs.length c hxe h0 h1,.ep _ _ _ (fun j=>val n.toNat j) (fun j x hj=>hw _ _ _ _ hx' hj) (fun j x hj=>hF _ _ _ _ hx' hj) (fun j x hj=>hdr _ _ _ _ hx' hj)⟩
 ·rename_i b es' i m hρ
  obtain ⟨rfl,rfl⟩:=Prod.mk.inj (Option.some.inj h)
  obtain ⟨h0,h1,rfl⟩:=hp
  rw[hρ]at hx
  obtain ⟨A,c,hxe,k1,k2,k3⟩:=hx.sl_inv
  obtain ⟨r,q,e1,e2,e3,e4⟩:=k1 (by omega)
  subst e2
  refine ⟨_,run r (i*ee.size) m c hxe h0 h1,?_⟩
  have:=VR.ptr (F:=F) (w:=w) b ee.size (i+n.toNat) 0 r q e1
  rw[Nat.add_mul,Nat.add_zero]at this;exact this
 ·cases h
def byteAt (s:ByteArray) (n:Nat):Int:=((s.data.toList.getD n 0).toNat:Int)
def indexG (d:TypeDesc) (ee:Option TyE) (g:G) (n:Int):Option (Option Prop×G):=
 match d,g with
 | .string,.d (.sc (.string s))=>some (some (0≤n∧n<s.size),.d (.sc (.int .u8 (byteAt s n.toNat))))
 |_,_=>none
theorem lop_index [Laid] {t:TypeId} {x y:Operand} (hT:TabOK P T) (ho:o.op= .index t x y) {e:TyE} (te:tyAt T t=some e) {k:IntKind} {n:Int} (hy:idxOf (ρ y)=some (k,n)) {pr:Option Prop} {g:G} (h:indexG e.desc none (ρ x) n=some (pr,g)) (hp:obP pr):LOp P o ρ H {g:=g} :=by
 have kt:=hT _ _ te
 refine lop_pure fun H' _ ν F w a hv hr=> ?_
 have hye:=idxOf_sound hy (hv y (by simp[ho,Op.operands]))
 have hx:=hv x (by simp[ho,Op.operands])
 unfold indexG at h
 split at h
 ·rename_i s hd hρ
  obtain ⟨rfl,rfl⟩:=Prod.mk.inj (Option.some.inj h)
  have hp:0≤n∧n<s.size:=hp
  rw[hρ]at hx
  have hxe:=hx.sc_eq.1
  refine ⟨_,?_,.d (.sc _ rfl)⟩
  have hb:(if 0≤n then s[n.toNat]? else none)=some (s.data.toList.getD n.toNat 0):=by
   rw[if_pos hp.1]
   have:n.toNat<s.size:=by omega
   have h2:n.toNat<s.data.size:=this
   rw[getElem?_pos s n.toNat this]
   have e1:s.data.toList.getD n.toNat 0=s.data[n.toNat]'h2:=by
    rw[List.getD_eq_getElem?_getD,Array.getElem?_toList,Array.getElem?_eq_getElem h2];rfl
   rw[e1]
   rfl
  simp only[execOp,ho,Instr.index,Sem.run_bind,hye,asIntOf,Sem.run_pure,Result.andThen_ok,kt.under w,hd,hxe,hb,byteAt]
 ·cases h
end
end Go.Gh
