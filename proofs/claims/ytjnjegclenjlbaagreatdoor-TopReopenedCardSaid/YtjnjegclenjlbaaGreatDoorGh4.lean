/- A logic of calls without memory (4 of 3). -/
import Derived.Test.YtjnjegclenjlbaaGreatDoorGh3
import Derived.Maps.RangeRun
import Derived.Sort.Row
import Derived.Sort.Grow
import Derived.Laws.CopyRow
import Derived.RecoverIn
namespace Go.Gh
open Go Go.RowKit
set_option linter.unusedVariables false
section
variable {P:Program} {nt p:Nat} {R:Exit→St→Prop} {c c':Code} {K K':List Kont} {σ:St}
theorem gk_ent [Laid] (t:Nat) (g':G) {tm:List (Nat×G)} {hp:List (Nat×Option Blk)} {n:Nat} (he:Ent (getG tm t) g') (h:GK P nt p R c K ⟨(t,g')::tm,hp,n⟩) (hw:isWork c=true:=by rfl):GK P nt p R c K ⟨tm,hp,n⟩:=
 gk_work hw fun ro ν F a w hr hl=>h.gw ro ν F a w ⟨hr.pin,fun t'=>by
  show VR ν F w (bif Nat.beq t' t then g' else getG tm t') _
  cases hb:Nat.beq t' t with
  |true=>rw[Nat.eq_of_beq_eq_true hb];exact he ν F w _ (hr.vals t)
  |false=>exact hr.vals t',hr.rel,hr.defers,hr.free,hr.size,hr.fresh⟩ hl
end
section
variable {P:Program} {nt p:Nat} {R:Exit→St→Prop} {c':Code} {K K':List Kont}
end
end Go.Gh
namespace Go.Gh
open Go Go.RowKit
set_option linter.unusedVariables false
set_option linter.unusedSectionVars false
structure Quiet (M:Nat→Prop) (w w':World):Prop where
 os:w'.os=w.os
 tape:w'.tape=w.tape
 output:w'.output=w.output
 size:w.heap.size≤w'.heap.size
 frame:∀r,r<w.heap.size→¬M r→w'.heap[r]? =w.heap[r]?
structure KeepM (F:Fz) (M:Nat→Prop) (w w':World):Prop where
 keep:Keep F w F w'
 mine:∀r,M r→w'.heap[r]? =w.heap[r]?
 size:w.heap.size≤w'.heap.size
structure YC [Laid] (P:Program) (α:Type) where
 l:Nat
 J:Bool→List α→(Nat→Prop)→World→Prop
 gs:α→List G
 xs:List α
 F:Fz
 ab:∀b pre (M M':Nat→Prop) w w',J b pre M w→Quiet M w w'→(∀r,M' r→M r∨w.heap.size≤r∧r<w'.heap.size)→J b pre M' w'
 yl:∀pre x rest M w (args:Array Value),J true pre M w→pre++x::rest=xs→VRs (fun _=>none) F w (gs x) args→
  YieldAt Fence.wide 0 P l args w fun e w'=>∃b,e= .returned (.bool b)∧J b (pre++ [x]) M w'∧KeepM F M w w'
structure YI [Laid] {P:Program} {α:Type} (C:YC P α) (σ:St) (φ:Bool×List α) (M:Nat→Prop) (ν:Nu) (F:Fz) (a:Act) (w:World) (nt:Nat):Prop where
 rs:RS σ ν F a w nt 0
 mine:∀r,Mine ν σ.H r→M r
 fz:∀b o,F b o→C.F b o∨M b
 sub:∀b o,C.F b o→F b o
 marks:(∀D:Nat,({target:= .collected D,args:= #[]} :Deferred)∈a.defers→M D)∧∀d,d∈a.defers→∃D,d.target= .collected D
 j:C.J φ.1 φ.2 M w
def YPost [Laid] {P:Program} {α:Type} (C:YC P α) (nt:Nat) (Q:Exit→St→Bool×List α→Prop):Exit→Act→World→Prop:=
 fun e a w=>∃σ φ M ν F,Q e σ φ∧YI C σ φ M ν F a w nt
def GY [Laid] {P:Program} {α:Type} (C:YC P α) (nt:Nat) (c:Code) (σ:St) (φ:Bool×List α) (Q:Exit→St→Bool×List α→Prop):Prop:=
 ∀M ν F a w,YI C σ φ M ν F a w nt→c.wpIn (rnd none) 0 P (YPost C nt Q) a w
section
variable [Laid] {P:Program} {α:Type} {C:YC P α} {nt:Nat} {σ:St} {φ:Bool×List α} {Q:Exit→St→Bool×List α→Prop}
theorem YI.step {σ σ':St} {M:Nat→Prop} {ν ν':Nu} {F F':Fz} {a a':Act} {w w':World} (h:YI C σ φ M ν F a w nt) (r:RS σ' ν' F' a' w' nt 0) (e:Evo ν F w σ.H ν' F' w' σ'.H) (p:Pin 0 ν ν' a.defers a'.defers w.heap.size):
 YI C σ' φ (fun r=>M r∨w.heap.size≤r∧r<w'.heap.size) ν' F' a' w' nt:=by
 have r0:=r
 refine ⟨r,fun r hr=> ?_,fun b o hb=> ?_,fun b o hb=>e.keep.sub b o (h.sub b o hb),⟨fun D hD=> ?_,fun d hd=> ?_⟩,C.ab _ _ M _ w w' h.j ⟨e.os,e.tape,e.output,e.size,fun r hr hm=>e.frame r hr fun hx=>hm (h.mine r hx)⟩ fun r hr=>hr⟩
 ·rcases e.mine r hr with h1|h1
  ·exact .inl (h.mine r h1)
  ·exact .inr ⟨h1,r0.rel.mine_lt hr⟩
 ·rcases e.fz b o hb with h1|h1|h1
  ·exact (h.fz b o h1).imp id .inl
  ·exact .inr (.inl (h.mine b h1))
  ·exact .inr (.inr ⟨h1,r0.rel.old_lt hb⟩)
 ·obtain ⟨Do,k1,k2,k3⟩:=r0.defers
  have hlt:D<w'.heap.size:=(Array.getElem?_eq_some_iff.1 (k3 D ((mem_marks k2).1 hD))).1
  obtain ⟨Ds,h1,h2⟩:=p.more
  rw[h1]at hD
  rcases List.mem_append.1 hD with hD|hD
  ·obtain ⟨D',hD',e⟩:=List.mem_map.1 hD
   injection e with e _;injection e with e
   exact .inr ⟨e▸h2 D' hD',hlt⟩
  ·exact .inl (h.marks.1 D hD)
 ·obtain ⟨Ds,h1,_⟩:=p.more
  rw[h1]at hd
  rcases List.mem_append.1 hd with hd|hd
  ·obtain ⟨D,_,e⟩:=List.mem_map.1 hd
   exact ⟨D,by rw[←e]⟩
  ·exact h.marks.2 d hd
def thenY (next:St→Bool×List α→Prop) (Q:Exit→St→Bool×List α→Prop):Exit→St→Bool×List α→Prop
 | .normal,σ,φ=>next σ φ
 |e,σ,φ=>Q e σ φ
def blockY (id:Nat) (Q:Exit→St→Bool×List α→Prop):Exit→St→Bool×List α→Prop
 | .exit j,σ,φ=>if j=id then Q .normal σ φ else Q (.exit j) σ φ
 |e,σ,φ=>Q e σ φ
theorem gy_skip (h:Q .normal σ φ):GY C nt .skip σ φ Q:=fun M ν F a w hy=>wpIn_skip ⟨σ,φ,M,ν,F,h,hy⟩
theorem gy_exit {id:Nat} (h:Q (.exit id) σ φ):GY C nt (.exit id) σ φ Q:=fun M ν F a w hy=>wpIn_exit ⟨σ,φ,M,ν,F,h,hy⟩
theorem gy_ret (h:Q .ret σ φ):GY C nt .ret σ φ Q:=fun M ν F a w hy=>wpIn_ret ⟨σ,φ,M,ν,F,h,hy⟩
theorem YI.after {M:Nat→Prop} {ν:Nu} {F:Fz} {a:Act} {w w':World} (h:YI C σ φ M ν F a w nt) (hk:KeepM C.F M w w'):RS σ ν F a w' nt 0∧Keep F w F w':=by
 have hc:∀b o,F b o→w'.cell? ⟨b,o,none⟩=w.cell? ⟨b,o,none⟩∧szAt w' b=szAt w b:=fun b o hb=>by
  rcases h.fz b o hb with h1|h1
  ·exact ⟨hk.keep.same b o h1,hk.keep.sz b o h1⟩
  ·exact ⟨by simp only[World.cell?,hk.mine b h1],szAt_of (hk.mine b h1)⟩
 have hkk:Keep F w F w':=⟨fun _ _ h=>h,fun b o hb=>(hc b o hb).1,fun b o hb=>(hc b o hb).2⟩
 refine ⟨⟨h.rs.pin,fun t=>(h.rs.vals t).keep hkk (More.refl _),⟨h.rs.rel.inj,fun i b hi=>(h.rs.rel.blk i b hi).keep hkk (More.refl _) (fun r k e=>hk.mine r (h.mine r ⟨i,k,by rw[hi];rfl,e⟩)) (fun _ _ _ _=>Iff.rfl),fun b o hb=>by rw[hkk.same b o hb];exact h.rs.rel.old b o hb,h.rs.rel.glob.keep hkk⟩,?_,h.rs.free,h.rs.size,h.rs.fresh⟩,hkk⟩
 obtain ⟨Do,d1,d2,d3⟩:=h.rs.defers
 exact ⟨Do,d1,d2,fun D hD=>(hk.mine D (h.marks.1 D ((mem_marks d2).2 hD))).trans (d3 D hD)⟩
theorem run_textC {ops:Array Oper} {Q:St→Prop} {p:Nat} {R:Exit→Act→World→Prop} {tl:List Nat} (hg:guardsOk ops nt=true) {ν0:Nu} {F0:Fz} {w0:World} {H0:Hp} {l0:List Deferred} {ro:Option Nat}
 (hc:∀σ ν F a w,Q σ→RS σ ν F a w nt p→Evo ν0 F0 w0 H0 ν F w σ.H→Pin p ν0 ν l0 a.defers w0.heap.size→wpOpsIn (rnd ro) 0 P ops R tl a w):
 ∀(rest:List Oper) (σ:St) (feet:List Foot) (k:Nat),(∃more,ops.toList.drop k=rest++more)→GRun P ops nt (fun σ _=>Q σ) rest σ feet→
 ∀(ν:Nu) (F:Fz) (a:Act) (w:World),RS σ ν F a w nt p→Evo ν0 F0 w0 H0 ν F w σ.H→Pin p ν0 ν l0 a.defers w0.heap.size→
 wpOpsIn (rnd ro) 0 P ops R (List.range' k rest.length++tl) a w:=by
 intro rest
 induction rest with
 |nil=>
  intro σ feet k hk h ν F a w hr he hp
  cases h with
  |nil _ _ h=>exact hc σ ν F a w h hr he hp
 |cons o rest ih=>
  intro σ feet k hk h ν F a w hr he hp
  cases h with
  |cons _ _ _ _ s hs h=>
   obtain ⟨more,hk⟩:=hk
   have hok:ops[k]? =some o:=by
    have:ops.toList[k]? =some o:=by
     have:=congrArg (·[0]?) hk
     simpa using this
    simpa using this
   have hrest:ops.toList.drop (k+1)=rest++more:=by
    have:=congrArg List.tail hk
    simpa [List.tail_drop]using this
   rw[List.length_cons,List.range'_succ,List.cons_append,wpOpsIn,hok]
   have hN:∀i,i∈s.E.new→σ.H i=none:=fun i hi=>hr.fresh i (hs.new i hi).1
   refine step_sound hs (fun _ _=>rfl) (fun _ _=>rfl) hN hr.vals hr.rel hr.defers (fun i hi=>hr.free i (hs.new i hi).1) hr.size (fun j want d _ hd=>guardsOk_spec hg hd) ?_
   intro a' w' ν' F' v1 v2 hrel hdd hdef hnew hsz hev
   refine ih (σ.app o s) _ (k+1) ⟨more,hrest⟩ h ν' F' a' w' ⟨?_,?_,?_,hdef,?_,hsz,?_⟩ (he.trans (by rw[St.H_app];exact hev)) (hp.trans (Pin.of w.heap.size hdd fun i hi=> ?_) he.size)
   ·exact Nat.le_trans hr.pin (Nat.le_add_right _ _)
   ·intro t
    by_cases ht:o.dst=some t
    ·rw[St.get_app_same _ _ _ _ ht];exact v2 t ht
    ·rw[St.get_app_other _ _ _ _ ht];exact v1 t ht
   ·rw[St.H_app];exact hrel
   ·intro i hi
    have hi':σ.next+s.E.new.length≤i:=hi
    have:ν' i=ν i:=Classical.byContradiction fun hne=>by have:=hs.new i (hnew i hne);omega
    rw[this];exact hr.free i (by omega)
   ·intro i hi
    have hi':σ.next+s.E.new.length≤i:=hi
    rw[St.H_app,look_other _ _ _ (fun hm=>by have:=hs.touch hm;omega)]
    exact hr.fresh i (by omega)
   ·have:ν' i=ν i:=Classical.byContradiction fun hne=>by have:=hs.new i (hnew i hne);have:=hr.pin;omega
    exact this
def G.plain:G→Bool
 | .d (.sc _)=>true
 | .agg l=>plainL l
 |_=>false
 where plainL:List G→Bool
 | []=>true
 |g::l=>G.plain g&&plainL l
theorem plainL_all {l:List G} (h:G.plain.plainL l=true):∀g,g∈l→G.plain g=true:=by
 induction l with
 |nil=>intro g hg;cases hg
 |cons x l ih=>
  simp only[G.plain.plainL,Bool.and_eq_true]at h
  intro g hg
  rcases List.mem_cons.1 hg with rfl|hg
  ·exact h.1
  ·exact ih h.2 g hg
theorem VR.plain {ν ν':Nu} {F F':Fz} {w w':World} {g:G} {v:Value} (h:VR ν F w g v):G.plain g=true→VR ν' F' w' g v:=by
 induction h with
 |d h=>
  intro hp
  cases h with
  |sc _ h=>exact .d (.sc _ h)
  |row=>cases hp
 |agg cells cs h1 hc _ ih=>intro hp;exact .agg cells cs h1 hc fun j g u a b=>ih j g u a b (plainL_all hp g (List.mem_of_getElem? a))
 |_=>intro hp;cases hp
end
end Go.Gh
namespace Go.Gh
open Go Go.RowKit
set_option linter.unusedVariables false
set_option linter.unusedSectionVars false
structure BLM [Laid] (q:Nat) (ν:Nu) (F:Fz) (w:World) (H:Hp) (τ:St) (M:Nat→Prop) (W:World) (ν1:Nu) (F1:Fz):Prop where
 rel:Rel ν1 F1 W τ.H
 free:∀i,τ.next≤i→ν1 i=none
 fresh:∀i,τ.next≤i→τ.H i=none
 pin:q≤τ.next
 evo:Evo ν F w H ν1 F1 W τ.H
 same:∀i,i<q→ν1 i=ν i
 apart:∀r,M r→w.heap.size≤r∧r<W.heap.size∧¬Mine ν1 τ.H r∧∀o,¬F1 r o
theorem BLM.quiet [Laid] {q:Nat} {ν:Nu} {F:Fz} {w:World} {H:Hp} {τ:St} {M M':Nat→Prop} {W W':World} {ν1:Nu} {F1:Fz} (h:BLM q ν F w H τ M W ν1 F1) (hq:Quiet M W W') (hm:∀r,M' r→M r∨W.heap.size≤r∧r<W'.heap.size):BLM q ν F w H τ M' W' ν1 F1:=by
 have hF:∀b o,F1 b o→W'.heap[b]? =W.heap[b]? :=fun b o hb=>hq.frame b (h.rel.old_lt hb) fun hm=>(h.apart b hm).2.2.2 o hb
 have hk:Keep F1 W F1 W':=⟨fun _ _ h=>h,fun b o hb=>by simp only[World.cell?,hF b o hb],fun b o hb=>szAt_of (hF b o hb)⟩
 have hM:∀r,Mine ν1 τ.H r→W'.heap[r]? =W.heap[r]? :=fun r hr=>hq.frame r (h.rel.mine_lt hr) fun hm=>(h.apart r hm).2.2.1 hr
 refine ⟨⟨h.rel.inj,fun i b hi=>(h.rel.blk i b hi).keep hk (More.refl _) (fun r k e=>hM r ⟨i,k,by rw[hi];rfl,e⟩) (fun _ _ _ _=>Iff.rfl),fun b o hb=>by rw[hk.same b o hb];exact h.rel.old b o hb,h.rel.glob.keep hk⟩,h.free,h.fresh,h.pin,
  ⟨h.evo.keep.trans hk,hq.os.trans h.evo.os,hq.tape.trans h.evo.tape,hq.output.trans h.evo.output,Nat.le_trans h.evo.size hq.size,fun r hr hn=>(hq.frame r (Nat.lt_of_lt_of_le hr h.evo.size) fun hm=>by have:=(h.apart r hm).1;omega).trans (h.evo.frame r hr hn),h.evo.mine,h.evo.fz⟩,h.same,fun r hr=> ?_⟩
 rcases hm r hr with h1|h1
 ·obtain ⟨a1,a2,a3,a4⟩:=h.apart r h1
  exact ⟨a1,Nat.lt_of_lt_of_le a2 hq.size,a3,a4⟩
 ·exact ⟨Nat.le_trans h.evo.size h1.1,h1.2,fun hx=>by have:=h.rel.mine_lt hx;omega,fun o ho=>by have:=h.rel.old_lt ho;omega⟩
theorem quiet_put {M:Nat→Prop} {W:World} {l:Nat} {o o':Obj} (h:W.heap[l]? =some o):Quiet (fun r=>M r∨r=l) W (W.putObj l o'):=
 ⟨rfl,rfl,rfl,by simp[World.putObj],fun r _ hm=>World.putObj_heap_other fun e=>hm (.inr e)⟩
theorem Rel.notDull [Laid] {ν:Nu} {F:Fz} {w:World} {H:Hp} (hr:Rel ν F w H) {l:Nat} {o:Obj} (h:w.heap[l]? =some o) (hd:dull o=true):¬Mine ν H l∧∀k,¬F l k:=by
 refine ⟨fun ⟨i,k,hi,e⟩=> ?_,fun k hk=> ?_⟩
 ·obtain ⟨b,hb⟩:=Option.isSome_iff_exists.1 hi
  have hbr:=hr.blk i b hb
  rw[e]at hbr
  cases b with
  |box cells=>obtain ⟨r,q,arr,T,e1,h5,_⟩:=hbr;cases e1;rw[h]at h5;cases h5;cases hd
  |row ty es df cs xs fz=>
   rcases hbr with ⟨h5,_⟩|⟨r,q,arr,e1,h5,_⟩
   ·cases h5
   ·cases e1;rw[h]at h5;cases h5;cases hd
  |mp L=>obtain ⟨r,q,es,c,e1,h5,_⟩:=hbr;cases e1;rw[h]at h5;cases h5;cases hd
  |tbx T vs=>obtain ⟨r,q,e1,h5,_⟩:=hbr;cases e1;rw[h]at h5;cases h5;cases hd
 ·have h1:=hr.old l k hk
  simp only[World.cell?,h]at h1
  cases o<;>first|(simp[dull]at hd;done)|(simp at h1;done)
theorem BLM.put [Laid] {q:Nat} {ν:Nu} {F:Fz} {w:World} {H:Hp} {τ:St} {M:Nat→Prop} {W:World} {ν1:Nu} {F1:Fz} (h:BLM q ν F w H τ M W ν1 F1) {l:Nat} {o o':Obj} (hl:W.heap[l]? =some o) (hd:dull o=true) (hw:w.heap.size≤l):BLM q ν F w H τ M (W.putObj l o') ν1 F1:=by
 have hb:BLM q ν F w H τ (fun r=>M r∨r=l) W ν1 F1:=⟨h.rel,h.free,h.fresh,h.pin,h.evo,h.same,fun r hr=>by
  rcases hr with hr|rfl
  ·exact h.apart r hr
  ·exact ⟨hw,(Array.getElem?_eq_some_iff.1 hl).1,h.rel.notDull hl hd⟩⟩
 exact hb.quiet (quiet_put hl) fun r hr=> .inl (.inl hr)
section
variable {P:Program} {nt p:Nat} {R:Exit→St→Prop} {c c':Code} {K K':List Kont} {σ:St}
end
end Go.Gh
namespace Go.Gh
open Go Go.RowKit
set_option linter.unusedVariables false
set_option linter.unusedSectionVars false
inductive YK (α:Type):Type 1
 |seq (c:Code)
 |block (id:Nat)
 |goal (T:St→Bool×List α→Prop)
section
variable [Laid] {P:Program} {α:Type} (C:YC P α) (nt:Nat) (R:Exit→St→Bool×List α→Prop)
def yQ:List (YK α)→Exit→St→Bool×List α→Prop
 | []=>R
 | .seq y::K=>thenY (fun σ φ=>GY C nt y σ φ (yQ K)) (yQ K)
 | .block id::K=>blockY id (yQ K)
 | .goal T::K=>thenY T (yQ K)
def GYK (c:Code) (K:List (YK α)) (σ:St) (φ:Bool×List α):Prop:=
 match c with
 | .skip=>yQ C nt R K .normal σ φ
 | .exit id=>yQ C nt R K (.exit id) σ φ
 | .ret=>yQ C nt R K .ret σ φ
 |c=>GY C nt c σ φ (yQ C nt R K)
end
section
variable [Laid] {P:Program} {α:Type} {C:YC P α} {nt:Nat} {R:Exit→St→Bool×List α→Prop} {c c':Code} {K K':List (YK α)} {σ:St} {φ:Bool×List α}
theorem GYK.gy (h:GYK C nt R c K σ φ):GY C nt c σ φ (yQ C nt R K):=by
 cases c<;>first|exact gy_skip h|exact gy_exit h|exact gy_ret h|exact h
end
end Go.Gh
namespace Go.Gh
open Go Go.RowKit
open Go.ChangeMaps (setBlock)
set_option linter.unusedVariables false
set_option linter.unusedSectionVars false
def kv (x:MapEntry):Value×Value:=(x.key,x.val)
theorem left_perm:∀(l:List MapEntry) (e:MapEntry),(l.map (·.born)).Nodup→e∈l→l.Perm (e::l.filter fun x=> !(x.born==e.born)):=by
 intro l
 induction l with
 |nil=>intro e _ h;cases h
 |cons a l ih=>
  intro e hn he
  simp only[List.map_cons,List.nodup_cons]at hn
  rcases List.mem_cons.1 he with rfl|he
  ·have:(e::l).filter (fun x=> !(x.born==e.born))=l:=by
    rw[List.filter_cons_of_neg (by simp)]
    refine List.filter_eq_self.2 fun x hx=> ?_
    simp only[Bool.not_eq_true',beq_eq_false_iff_ne]
    intro h
    exact hn.1 (List.mem_map.2 ⟨x,hx,h⟩)
   rw[this]
  ·have hne:a.born≠e.born:=fun h=>hn.1 (h▸List.mem_map.2 ⟨e,he,rfl⟩)
   rw[List.filter_cons_of_pos (by simpa using hne)]
   exact ((ih e hn.2 he).cons a).trans (List.Perm.swap e a _)
def ItF (w:World) (r rm:Nat) (L done:List (Value×Value)):Prop:=
 ∃(es:Array MapEntry) (clock c0:Nat) (dl:List MapEntry),w.heap[r]? =some (.mapIter (some rm) clock (dl.map (·.born)).toArray c0)∧clock≤c0∧w.heap[rm]? =some (.map es clock)∧es.toList.map kv=L∧Born es clock∧dl.map kv=done∧
  (dl++(leftOf es (dl.map (·.born)).toArray).toList).Perm es.toList
theorem leftOf_push (es:Array MapEntry) (seen:Array Nat) (b:Nat):(leftOf es (seen.push b)).toList=(leftOf es seen).toList.filter fun x=> !(x.born==b):=by
 unfold leftOf
 rw[Array.toList_filter,Array.toList_filter,List.filter_filter]
 congr 1
 funext x
 rw[contains_push]
 cases seen.contains x.born<;>simp
theorem ItF.next {P:Program} {w:World} {r rm:Nat} {L done:List (Value×Value)} (h:ItF w r rm L done) (ty:TypeId):
 (done.Perm L∧(Instr.next (.pointer (some ⟨r,0,none⟩)) false ty).run P w= .ok (.tuple #[.bool false]) w)∨
 ∃k v rest w1 o,(done++(k,v)::rest).Perm L∧(w1=w∨w1=w.drew)∧(Instr.next (.pointer (some ⟨r,0,none⟩)) false ty).run P w= .ok (.tuple #[.bool true,k,v]) (w1.putObj r o)∧ItF (w1.putObj r o) r rm L (done++ [(k,v)])∧
  ∀w2,w2.heap[r]? =(w1.putObj r o).heap[r]?→w2.heap[rm]? =(w1.putObj r o).heap[rm]?→(Instr.entry (.pointer (some ⟨r,0,none⟩))).run P w2= .ok (.tuple #[k,v]) w2:=by
 obtain ⟨es,clock,c0,dl,h1,h2,h3,h4,h5,h6,h7⟩:=h
 have hrm:r≠rm:=fun e=>by subst e;rw[h1]at h3;cases h3
 rcases run_next_at (P:=P) w ty r rm clock c0 _ es clock h1 h3 (fun x hx=>h5.2 x hx) h2 with ⟨e0,e1⟩|⟨e,he,w1,hw1,hrun⟩
 ·refine .inl ⟨?_,e1⟩
  have:(leftOf es (dl.map (·.born)).toArray).toList= []:=by
   rw[Array.eq_empty_of_size_eq_zero e0]
  rw[this,List.append_nil]at h7
  rw[←h4,←h6];exact h7.map kv
 ·have hlt:r<w1.heap.size:=by
   have:=(Array.getElem?_eq_some_iff.1 h1).1
   rcases hw1 with rfl|rfl<;>exact this
  have hrm1:w1.heap[rm]? =some (.map es clock):=by rcases hw1 with rfl|rfl<;>exact h3
  obtain ⟨hb1,hb2⟩:=mem_left he
  have hnl:((leftOf es (dl.map (·.born)).toArray).toList.map (·.born)).Nodup:=by
   have:(leftOf es (dl.map (·.born)).toArray).toList.Sublist es.toList:=by unfold leftOf;rw[Array.toList_filter];exact List.filter_sublist
   exact (this.map _).nodup h5.1
  have hp:=left_perm _ e hnl he
  have hperm:((dl++ [e])++(leftOf es ((dl.map (·.born)).toArray.push e.born)).toList).Perm es.toList:=by
   rw[leftOf_push,List.append_assoc]
   exact (List.Perm.append_left dl hp.symm).trans h7
  have hseen:((dl++ [e]).map (·.born)).toArray=(dl.map (·.born)).toArray.push e.born:=by simp
  have hr2:(w1.putObj r (.mapIter (some rm) clock ((dl.map (·.born)).toArray.push e.born) clock)).heap[r]? =some (.mapIter (some rm) clock ((dl.map (·.born)).toArray.push e.born) clock):=World.putObj_heap_same hlt
  have hrm2:(w1.putObj r (.mapIter (some rm) clock ((dl.map (·.born)).toArray.push e.born) clock)).heap[rm]? =some (.map es clock):=(World.putObj_heap_other fun e=>hrm e.symm).trans hrm1
  refine .inr ⟨e.key,e.val,((leftOf es ((dl.map (·.born)).toArray.push e.born)).toList).map kv,w1,_,?_,hw1,hrun,⟨es,clock,clock,dl++ [e],by rw[hseen];exact hr2,Nat.le_refl _,hrm2,h4,h5,by rw[List.map_append,h6];rfl,by rw[hseen];exact hperm⟩,fun w2 g1 g2=> ?_⟩
  ·have:=hperm.map kv
   rw[List.map_append,List.map_append,h6,h4]at this
   simpa [kv]using this
  ·exact run_entry_at w2 r rm clock _ es clock e (g1.trans hr2) (g2.trans hrm2) hb1 h5.1
theorem ItF.keep {w w':World} {r rm:Nat} {L done:List (Value×Value)} (h:ItF w r rm L done) (h1:w'.heap[r]? =w.heap[r]?) (h2:w'.heap[rm]? =w.heap[rm]?):ItF w' r rm L done:=by
 obtain ⟨es,clock,c0,dl,a,b,c,d⟩:=h
 exact ⟨es,clock,c0,dl,h1.trans a,b,h2.trans c,d⟩
section
variable [Laid] {P:Program} {T:Tab} {nt p:Nat}
def GWO (P:Program) (nt p:Nat) (ops:Array Oper) (k:Nat) (σ:St) (Q:Exit→St→Prop):Prop:=
 ∀(ro:Option Nat) (ν0:Nu) (F0:Fz) (w0:World) (H0:Hp) (l0:List Deferred) (ν:Nu) (F:Fz) (a:Act) (w:World),RS σ ν F a w nt p→Lives ro w→Evo ν0 F0 w0 H0 ν F w σ.H→Pin p ν0 ν l0 a.defers w0.heap.size→
  wpOpsIn (rnd ro) 0 P ops (GPost nt p ν0 F0 l0 w0 H0 Q) (List.range' k (ops.size-k)) a w
theorem wp_one {F:Fence} {n:Nat} {ops:Array Oper} {Q:Exit→Act→World→Prop} {i:Nat} {rest:List Nat} {o:Oper} {a:Act} {w w':World} {v:Value} (ho:ops[i]? =some o) (hg:o.guard=none) (hc:∀c,o.op≠ .call c) (hd:∀c,o.op≠ .defer c) (hrun:(execOp a.eval o).run P w= .ok (.value v) w')
 (h:wpOpsIn F n P ops Q rest (a.put o.dst v) w'):wpOpsIn F n P ops Q (i::rest) a w:=by
 rw[wpOpsIn,ho]
 simp only[]
 rw[if_pos (by unfold Region.wanted;rw[hg])]
 refine ⟨fun f hf=> ?_,?_⟩
 ·unfold Oper.about at hf
  split at hf
  ·rename_i c hc';exact absurd hc' (hc c)
  ·cases hf
 ·rw[Oper.semAt_eq _ _ _ hd,hrun];exact h
theorem RS.put {σ:St} {ν:Nu} {F:Fz} {a:Act} {w:World} (hr:RS σ ν F a w nt p) {d:Nat} {o:Oper} (hd:o.dst=some d) (hdn:d<nt) {v:Value} {g:G} (hv:VR ν F w g v):RS ⟨(d,g)::σ.tmps,σ.hp,σ.next⟩ ν F (a.put o.dst v) w nt p:=by
 have hlt:d<a.tmps.size:=by rw[hr.size];exact hdn
 refine ⟨hr.pin,fun t=> ?_,hr.rel,by rw[hd];exact hr.defers,hr.free,by rw[hd];simp[Act.put];exact hr.size,hr.fresh⟩
 rw[hd]
 show VR ν F w (bif Nat.beq t d then g else getG σ.tmps t) _
 cases e:Nat.beq t d with
 |true=>rw[Nat.eq_of_beq_eq_true e];simp[Act.put,hlt];exact hv
 |false=>
  have hne:d≠t:=fun h=>by subst h;rw[Nat.beq_refl]at e;cases e
  show VR ν F w (σ.get t) _
  have:=hr.vals t
  simpa [Act.put,Array.getElem?_setIfInBounds_ne hne]using this
theorem RS.iter {σ:St} {ν ν0:Nu} {F F0:Fz} {a:Act} {w w0 w1:World} {H0:Hp} {r:Nat} {o o':Obj} (hr:RS σ ν F a w nt p) (he:Evo ν0 F0 w0 H0 ν F w σ.H) (hw:w1=w∨w1=w.drew) (h0:w0.heap.size≤r) (ho:w.heap[r]? =some o) (hd:dull o=true) (hnd:∀D,o≠ .deferred D):
 RS σ ν F a (w1.putObj r o') nt p∧Evo ν0 F0 w0 H0 ν F (w1.putObj r o') σ.H:=by
 have hr1:Rel ν F w1 σ.H:=by
  rcases hw with rfl|rfl
  ·exact hr.rel
  ·exact hr.rel.drew
 have hk1:Keep F w F w1:=by
  rcases hw with rfl|rfl
  ·exact Keep.refl _ _
  ·exact Keep.drew _ _
 have ho1:w1.heap[r]? =some o:=by rcases hw with rfl|rfl<;>exact ho
 have he1:Evo ν0 F0 w0 H0 ν F w1 σ.H:=by
  rcases hw with rfl|rfl
  ·exact he
  ·exact ⟨he.keep.trans (Keep.drew _ _),he.os,he.tape,he.output,he.size,he.frame,he.mine,he.fz⟩
 have hc:=putObj_calm (B:=w0.heap.size) (o':=o') h0 ho1 hd
 obtain ⟨c1,c2⟩:=hr1.calm hc (.inr fun r' o2 e h=>by cases e;rw[ho1]at h;cases h;exact hd)
 refine ⟨⟨hr.pin,fun t=>(hr.vals t).keep (hk1.trans c2) (More.refl _),c1,?_,hr.free,hr.size,hr.fresh⟩,he1.calm c2 hc⟩
 obtain ⟨Do,d1,d2,d3⟩:=hr.defers
 refine ⟨Do,d1,d2,fun D hD=> ?_⟩
 have hne:D≠r:=fun e=>by
  have:=d3 D hD
  rw[e,ho]at this
  injection this with this
  exact hnd _ this
 rw[World.putObj_heap_other hne]
 have:w1.heap[D]? =w.heap[D]? :=by rcases hw with rfl|rfl<;>rfl
 rw[this];exact d3 D hD
def ptrV (r:Nat):Value:= .pointer (some ⟨r,0,none⟩)
def lacksT (ks:List Nat):List (Nat×G)→Bool
 | []=>true
 |(t,_)::l=> !(ks.any fun k=>Nat.beq t k)&&lacksT ks l
theorem lacksT_get {ks:List Nat} {t:Nat} (ht:t∈ks):∀ {l:List (Nat×G)},lacksT ks l=true→getG l t= .junk:=by
 intro l
 induction l with
 |nil=>intro _;rfl
 |cons x l ih=>
  obtain ⟨k,g⟩:=x
  intro h
  simp only[lacksT,Bool.and_eq_true,Bool.not_eq_true']at h
  simp only[getG]
  cases e:Nat.beq t k with
  |true=>
   have:=Nat.eq_of_beq_eq_true e
   subst this
   have:=List.any_eq_false.1 h.1 t ht
   rw[Nat.beq_refl]at this
   exact absurd rfl this
  |false=>exact ih h.2
def lacksB (ρ:Nat→Nat) (b:Nat):List (Nat×Option Blk)→Bool
 | []=>true
 |(i,_)::l=> !Nat.beq (ρ i) b&&lacksB ρ b l
theorem lacksB_look {ρ:Nat→Nat} {b:Nat} :∀ {l:List (Nat×Option Blk)},lacksB ρ b l=true→∀i,(look l noHp i).isSome=true→ρ i≠b:=by
 intro l
 induction l with
 |nil=>intro _ i h;cases h
 |cons x l ih=>
  obtain ⟨k,ob⟩:=x
  intro h i hi e
  simp only[lacksB,Bool.and_eq_true,Bool.not_eq_true']at h
  simp only[look]at hi
  cases ek:Nat.beq i k with
  |true=>
   rw[Nat.eq_of_beq_eq_true ek]at e
   rw[e,Nat.beq_refl]at h
   exact absurd h.1 (by decide)
  |false=>rw[ek]at hi;exact ih h.2 i hi e
theorem gw_maprange (env:Env P T) {α:Type} (b it d1 d2 de n2:Nat) (L:List (Value×Value)) (I:List (Value×Value)→α→Prop) (st:α→List (Nat×G)) (hps:α→List (Nat×Option Blk)) (x0:α)
 {id bid rid eid b1:Nat} {ops rops eops:Array Oper} {oR oN oX oE:Oper} {y:Code} {wr:Bool} {hs hs':List (Hint P)} {m:Nat} {tm tm1:List (Nat×G)} {h0 h1:List (Nat×Option Blk)} {n n1:Nat} {feet:List Foot} {pr:List Prop} {ρ:Nat→Nat} {ps:List Prop} {tR:TypeId} {xR:Operand} {eT:TyE} {kt et:TypeId} {Q:Exit→St→Prop}
 (hrun:runG P wr T nt ops (ops.toList.take m) tm h0 n [] hs=some (pr,⟨tm1,h1,n1⟩,feet,hs')) (hgo:guardsOk ops nt=true) (hpr:AllP pr) (hm:ops.size=m+1)
 (hw:weakO p ρ ⟨tm1,h1,n1⟩ ⟨st x0,hps x0,n2⟩=some ps) (hps0:AllP ps) (hI0:I [] x0) (hb:lacksB ρ b (hps x0)=true)
 (hR:ops[m]? =some oR) (hRop:oR.op= .range tR xR) (hRd:oR.dst=some it) (hRg:oR.guard=none) (hRx:(⟨tm1,h1,n1⟩:St).ev xR= .mp b) (hmap:look h1 noHp b=some (.mp L)) (hte:tyAt T tR=some eT) (hmd:mapDesc eT.desc=some (kt,et))
 (hN:rops.toList= [oN,oX]) (hNop:oN.op= .next (.tmp it) false) (hNd:oN.dst=some d1) (hNg:oN.guard=none) (hXop:oX.op= .extract (.tmp d1) 0) (hXd:oX.dst=some d2) (hXg:oX.guard=none)
 (hE:eops[0]? =some oE) (hEop:oE.op= .entry (.tmp it)) (hEd:oE.dst=some de) (hEg:oE.guard=none)
 (hlt:it<nt∧d1<nt∧d2<nt∧de<nt) (hne:it≠d1∧it≠d2∧d1≠d2) (hst:∀x,lacksT [it,d1,d2] (st x)=true) (hone:∀e,e∈L→e.1.oneCell'=true∧e.2.oneCell'=true)
 (hround:∀r done k v rest x,(done++(k,v)::rest).Perm L→I done x→GWO P nt p eops 1 ⟨(de,.tup [.d (.sc k),.d (.sc v)])::(it,.ex (ptrV r) .junk)::st x,hps x,n2⟩ (Exit.thenS (fun σ'=>GW P nt p y σ' fun e σ''=>e= .normal∧∃x' ρ qs,weakO p ρ σ'' ⟨(it,.ex (ptrV r) .junk)::st x',hps x',n2⟩=some qs∧AllP qs∧I (done++ [(k,v)]) x') fun e σ''=>e= .normal∧∃x' ρ qs,weakO p ρ σ'' ⟨(it,.ex (ptrV r) .junk)::st x',hps x',n2⟩=some qs∧AllP qs∧I (done++ [(k,v)]) x'))
 (hdone:∀done x,done.Perm L→I done x→Q .normal ⟨st x,hps x,n2⟩):
 GW P nt p (.seq (.region id ops false) (.block bid (.loop (.seq (.region rid rops false) (.seq (.cond (.tmp d2) .skip (.exit bid)) (.block b1 (.seq (.region eid eops false) y))))))) ⟨tm,h0,n⟩ Q:=by
 intro ro ν F a w hr hl
 refine wpIn_seq (wpIn_region ?_)
 have eR:List.range ops.size=List.range' 0 (ops.toList.take m).length++ [m]:=by
  rw[List.length_take,Array.length_toList,hm,Nat.min_eq_left (by omega),List.range_eq_range',List.range'_concat];simp
 rw[eR]
 refine run_textC (Q:=fun σ=>σ=⟨tm1,h1,n1⟩) hgo ?_ _ _ [] 0 ⟨ops.toList.drop m,by simp⟩ (runG_sound env.ty _ _ _ _ _ _ _ hrun hpr rfl) ν F a w hr (Evo.refl _ _ _ _) (Pin.refl p _ a.defers _)
 rintro σ1 ν1 F1 a1 w1 rfl r1 e1 p1
 have hxR:=ev_sound r1.rel.glob r1.vals xR
 rw[hRx]at hxR
 obtain ⟨rm,km,hνb,hval⟩:=hxR.mp_inv
 obtain ⟨rm',km',es,cl,g1,g2,g3,⟨g4,g4'⟩,g5⟩:=r1.rel.blk b _ hmap
 rw[hνb]at g1;injection g1 with g1;injection g1 with g1 g1';subst g1;subst g1'
 have hdd:eT.desc= .map kt et:=by
  unfold mapDesc at hmd;split at hmd
  ·rename_i a b' he;cases hmd;exact he
  ·cases hmd
 have hu:P.underlying tR=some (.map kt et):=by rw[(env.ty _ _ hte).1,hdd]
 have hrng:=run_range_map (P:=P) w1 tR kt et rm es cl hu g2
 refine wp_one hR hRg (fun c h=>by rw[hRop]at h;cases h) (fun c h=>by rw[hRop]at h;cases h) (v:=ptrV w1.heap.size) (w':=w1.alloc (.mapIter (some rm) cl #[] cl)) (by simp only[execOp,hRop,hval,Sem.run_bind,hrng,Result.andThen_ok,Sem.run_pure];rfl) ?_
 generalize hwi:w1.alloc (.mapIter (some rm) cl #[] cl)=wi
 have hbel:Below w1.heap.size w1 wi:=by rw[←hwi];exact (Below.refl _ w1).alloc (Nat.le_refl _) _
 have hri:wi.heap[w1.heap.size]? =some (.mapIter (some rm) cl #[] cl):=by rw[←hwi];exact World.alloc_heap_new w1 _
 generalize hrr:w1.heap.size=r at hri hbel
 have hgrown:w1.grownBy wi none:=by subst hrr;exact ⟨hbel.os,hbel.tape,hbel.output,hbel.size,fun k hk _=>hbel.block k hk⟩
 have hcalm:∀B,Calm B w1 wi none:=fun B=>⟨hgrown,fun r e=>by cases e⟩
 obtain ⟨c1,c2⟩:=r1.rel.calm (hcalm w.heap.size) (.inr fun r o e=>by cases e)
 have r3:RS ⟨tm1,h1,n1⟩ ν1 F1 a1 wi nt p:=⟨r1.pin,fun t=>(r1.vals t).keep c2 (More.refl _),c1,by
  obtain ⟨Do,d1,d2,d3⟩:=r1.defers
  exact ⟨Do,d1,d2,fun D hD=>(hgrown.block D (Array.getElem?_eq_some_iff.1 (d3 D hD)).1 (by simp)).trans (d3 D hD)⟩,r1.free,r1.size,r1.fresh⟩
 have e13:=e1.calm c2 (hcalm w.heap.size)
 obtain ⟨ν2,r2,e2,p2,hdom⟩:=(weakO_sound hw hps0).rsN r3
 have r4:=r2.put hRd hlt.1 (v:=ptrV r) (g:= .ex (ptrV r) .junk) (.ex _ _ (.junk _))
 have e14:=e13.trans e2
 have p14:=p1.trans p2 (Nat.le_trans e1.size hgrown.size)
 have hlw:w.heap.size≤r:=by have:=e1.size;omega
 have hrmw:rm<r:=by have:=(Array.getElem?_eq_some_iff.1 g2).1;omega
 have hrmi:wi.heap[rm]? =some (.map es cl):=(hgrown.block rm (Array.getElem?_eq_some_iff.1 g2).1 (by simp)).trans g2
 have hnm:¬Mine ν2 (St.H ⟨st x0,hps x0,n2⟩) rm:=fun ⟨i,k,hi,e⟩=>by
  obtain ⟨bl,hbl⟩:=Option.isSome_iff_exists.1 hi
  obtain ⟨h1,h2⟩:=hdom i bl hbl
  rw[h1]at e
  exact lacksB_look hb i hi (r3.rel.inj _ _ rm k km h2 (by show (look _ noHp b).isSome=true;rw[hmap];rfl) e hνb)
 have hit0:ItF wi r rm L []:=by
  refine ⟨es,cl,cl,[],hri,Nat.le_refl _,hrmi,g3,g4',rfl,?_⟩
  have:leftOf es #[]=es:=by unfold leftOf;rw[Array.filter_eq_self];simp
  simp[this]
 show (Code.block bid _).wpIn (rnd ro) 0 P _ _ _
 refine wpIn_block ?_
 classical
 let Good (k:Nat) (a':Act) (w':World):Prop:=∃(x:α) (done:List (Value×Value)) (ν':Nu) (F':Fz),L.length-done.length=k∧I done x∧RS ⟨(it,.ex (ptrV r) .junk)::st x,hps x,n2⟩ ν' F' a' w' nt p∧Evo ν F w (St.H ⟨tm,h0,n⟩) ν' F' w' (St.H ⟨st x,hps x,n2⟩)∧Pin p ν ν' a.defers a'.defers w.heap.size∧¬Mine ν' (St.H ⟨st x,hps x,n2⟩) rm∧ItF w' r rm L done
 let μ (a':Act) (w':World):Nat:=if h:∃k,Good k a' w' then Classical.choose (least h)else 0
 have hμ:∀a' w',(∃k,Good k a' w')→Good (μ a' w') a' w'∧∀k,Good k a' w'→μ a' w'≤k:=fun a' w' h=>by
  have e:μ a' w'=Classical.choose (least h):=dif_pos h
  rw[e]
  exact Classical.choose_spec (least h)
 refine wpIn_loop (fun a' w'=>∃k,Good k a' w') μ ⟨_,x0,[],ν2,F1,rfl,hI0,r4,e14,by rw[show (a1.put oR.dst (ptrV r)).defers=a1.defers by rw[hRd];rfl];exact p14,hnm,hit0⟩ ?_
 intro a5 w5 hg5
 obtain ⟨⟨x,done,ν5,F5,hk5,hI5,r5,e5,p5,hnm5,hit5⟩,hmin⟩:=hμ a5 w5 hg5
 obtain ⟨ri,hit5'⟩:∃o,w5.heap[r]? =some o:=by obtain ⟨es,clock,c0,dl,h,_⟩:=hit5;exact ⟨_,h⟩
 have hdl:dull ri=true∧∀D,ri≠ .deferred D:=by
  obtain ⟨es,clock,c0,dl,h,_⟩:=hit5
  rw[hit5']at h;injection h with h;subst h
  exact ⟨rfl,fun D h=>by cases h⟩
 have hitv:a5.eval (.tmp it)=ptrV r:=by
  have h:=r5.vals it
  rw[show St.get ⟨(it,.ex (ptrV r) .junk)::st x,hps x,n2⟩ it= .ex (ptrV r) .junk by show (bif Nat.beq it it then _ else _)=_;rw[Nat.beq_refl];rfl]at h
  exact vr_ex h
 refine wpIn_seq (wpIn_region ?_)
 have hrs:rops.size=2:=by rw[←Array.length_toList,hN];rfl
 have hr0:rops[0]? =some oN:=by rw[←Array.getElem?_toList,hN];rfl
 have hr1:rops[1]? =some oX:=by rw[←Array.getElem?_toList,hN];rfl
 rw[hrs]
 show wpOpsIn (rnd ro) 0 P rops _ [0,1] a5 w5
 have hd1t:d1<a5.tmps.size:=by rw[r5.size];exact hlt.2.1
 have hput:∀v,(a5.put oN.dst v).eval (.tmp d1)=v:=fun v=>by rw[hNd];show (a5.tmps.setIfInBounds d1 v).getD d1 undef=v;simp[hd1t]
 have hdn:∀v v',((a5.put oN.dst v).put oX.dst v').defers=a5.defers:=fun v v'=>by rw[hNd,hXd];rfl
 have fin:∀(bv:Bool) (vs:List Value) (gs:List G) (w6:World),(Instr.next (ptrV r) false oN.type).run P w5= .ok (.tuple ((.bool bv)::vs).toArray) w6→VR ν5 F5 w6 (.tup (bG bv::gs)) (.tuple ((.bool bv)::vs).toArray)→RS ⟨(it,.ex (ptrV r) .junk)::st x,hps x,n2⟩ ν5 F5 a5 w6 nt p→
  ∀Q',(∀a6,a6.defers=a5.defers→RS ⟨(d2,bG bv)::(d1,.tup (bG bv::gs))::(it,.ex (ptrV r) .junk)::st x,hps x,n2⟩ ν5 F5 a6 w6 nt p→a6.eval (.tmp d2)= .bool bv→a6.eval (.tmp it)=ptrV r→Q' .normal a6 w6)→wpOpsIn (rnd ro) 0 P rops Q' [0,1] a5 w5:=fun bv vs gs w6 h1 h2 h3 Q' hQ=>by
  refine wp_one hr0 hNg (fun c h=>by rw[hNop]at h;cases h) (fun c h=>by rw[hNop]at h;cases h) (v:= .tuple ((.bool bv)::vs).toArray) (w':=w6) (by simp only[execOp,hNop,hitv,Sem.run_bind,h1,Result.andThen_ok,Sem.run_pure]) ?_
  have r6:=h3.put hNd hlt.2.1 h2
  refine wp_one hr1 hXg (fun c h=>by rw[hXop]at h;cases h) (fun c h=>by rw[hXop]at h;cases h) (v:= .bool bv) (w':=w6) (by simp only[execOp,hXop,hput];simp[Instr.extract]) ?_
  have r7:=r6.put hXd hlt.2.2.1 (v:= .bool bv) (g:=bG bv) (.d (.sc _ rfl))
  refine hQ _ (hdn _ _) r7 ?_ ?_
  ·have h:=r7.vals d2
   rw[show St.get ⟨(d2,bG bv)::(d1,.tup (bG bv::gs))::(it,.ex (ptrV r) .junk)::st x,hps x,n2⟩ d2=bG bv by show (bif Nat.beq d2 d2 then _ else _)=_;rw[Nat.beq_refl];rfl]at h
   exact h.sc_inv
  ·have h:=r7.vals it
   have f1:Nat.beq it d2=false:=by cases e:Nat.beq it d2 with|false=>rfl|true=>exact absurd (Nat.eq_of_beq_eq_true e) hne.2.1
   have f2:Nat.beq it d1=false:=by cases e:Nat.beq it d1 with|false=>rfl|true=>exact absurd (Nat.eq_of_beq_eq_true e) hne.1
   rw[show St.get ⟨(d2,bG bv)::(d1,.tup (bG bv::gs))::(it,.ex (ptrV r) .junk)::st x,hps x,n2⟩ it= .ex (ptrV r) .junk by
    show (bif Nat.beq it d2 then _ else (bif Nat.beq it d1 then _ else (bif Nat.beq it it then _ else _)))=_
    rw[f1,f2,Nat.beq_refl];rfl]at h
   exact vr_ex h
 have hdrop:∀ {gs1 gs2 gs3:G} {ν':Nu} {F':Fz} {a':Act} {w':World} (ks:List (Nat×G)),RS ⟨ks++(d2,gs1)::(d1,gs2)::(it,gs3)::st x,hps x,n2⟩ ν' F' a' w' nt p→(ks= []→RS ⟨st x,hps x,n2⟩ ν' F' a' w' nt p)∧RS ⟨ks++(it,gs3)::st x,hps x,n2⟩ ν' F' a' w' nt p:=fun {gs1 gs2 gs3 ν' F' a' w'} ks h=>by
  have hst':=hst x
  have gi:∀t,t=it∨t=d1∨t=d2→getG (st x) t= .junk:=fun t ht=>lacksT_get (ks:=[it,d1,d2]) (by rcases ht with rfl|rfl|rfl<;>simp) hst'
  constructor
  ·rintro rfl
   refine ⟨h.pin,fun t=> ?_,h.rel,h.defers,h.free,h.size,h.fresh⟩
   have hv:=h.vals t
   show VR _ _ _ (getG (st x) t) _
   by_cases hx:t=it∨t=d1∨t=d2
   ·rw[gi t hx];exact .junk _
   ·simp only[not_or]at hx
    have bq:∀ {i},t≠i→Nat.beq t i=false:=fun {i} hi=>by cases e:Nat.beq t i with|false=>rfl|true=>exact absurd (Nat.eq_of_beq_eq_true e) hi
    rw[show St.get ⟨[]++(d2,_)::(d1,_)::(it,_)::st x,hps x,n2⟩ t=getG (st x) t by
     show (bif Nat.beq t d2 then _ else (bif Nat.beq t d1 then _ else (bif Nat.beq t it then _ else _)))=_
     rw[bq hx.2.2,bq hx.2.1,bq hx.1];rfl]at hv
    exact hv
  ·refine ⟨h.pin,fun t=> ?_,h.rel,h.defers,h.free,h.size,h.fresh⟩
   have hv:=h.vals t
   have key:∀ks:List (Nat×G),VR ν' F' w' (getG (ks++(d2,gs1)::(d1,gs2)::(it,gs3)::st x) t) (a'.tmps.getD t undef)→VR ν' F' w' (getG (ks++(it,gs3)::st x) t) (a'.tmps.getD t undef):=by
    intro ks
    induction ks with
    |nil=>
     intro hv
     simp only[List.nil_append,getG]at hv⊢
     cases e3:Nat.beq t it with
     |true=>
      have:=Nat.eq_of_beq_eq_true e3
      subst this
      have f1:Nat.beq t d2=false:=by cases e:Nat.beq t d2 with|false=>rfl|true=>exact absurd (Nat.eq_of_beq_eq_true e) hne.2.1
      have f2:Nat.beq t d1=false:=by cases e:Nat.beq t d1 with|false=>rfl|true=>exact absurd (Nat.eq_of_beq_eq_true e) hne.1
      simpa [f1,f2,e3]using hv
     |false=>
      simp only[cond_false]
      cases e2:Nat.beq t d2 with
      |true=>rw[gi t (.inr (.inr (Nat.eq_of_beq_eq_true e2)))];exact .junk _
      |false=>
       cases e1:Nat.beq t d1 with
       |true=>rw[gi t (.inr (.inl (Nat.eq_of_beq_eq_true e1)))];exact .junk _
       |false=>simpa [e1,e2,e3]using hv
    |cons k ks ih=>
     obtain ⟨k1,g1⟩:=k
     intro hv
     simp only[List.cons_append,getG]at hv⊢
     cases e:Nat.beq t k1 with
     |true=>rw[e]at hv;exact hv
     |false=>rw[e]at hv;exact ih hv
   exact key ks hv
 have hltr:r<w5.heap.size:=(Array.getElem?_eq_some_iff.1 hit5').1
 have hsz5:rm<w5.heap.size:=by omega
 rcases hit5.next (P:=P) oN.type with ⟨hperm,hn⟩|⟨k,v,rest,w6a,o,hperm,hw6,hn,hit6,hent⟩
 ·refine fin false [] [] w5 hn (.tup _ _ rfl fun j g u h1 h2=> ?_) r5 _ fun a6 hdef r6 hev _=> ?_
  ·match j with
   |0=>simp at h1 h2;subst h1;subst h2;exact .d (.sc _ rfl)
   |j+1=>simp at h1
  ·refine wpIn_seq (wpIn_cond_false hev (wpIn_exit ?_))
   show Exit.inBlock bid _ (.exit bid) a6 w5
   simp only[Exit.inBlock,if_true]
   exact ⟨_,ν5,F5,hdone done x hperm hI5,(hdrop [] r6).1 rfl,e5,by rw[hdef];exact p5⟩
 ·have hkv:=hone (k,v) (hperm.mem_iff.1 (by simp))
  obtain ⟨r6,e6⟩:=r5.iter (o':=o) e5 hw6 hlw hit5' hdl.1 hdl.2
  have hs6:(w6a.putObj r o).heap.size=w5.heap.size:=by rcases hw6 with rfl|rfl<;>simp[World.putObj]<;>rfl
  refine fin true [k,v] [.d (.sc k),.d (.sc v)] (w6a.putObj r o) hn (.tup _ _ rfl fun j g u h1 h2=> ?_) r6 _ fun a6 hdef r7 hev hitv6=> ?_
  ·match j with
   |0=>simp at h1 h2;subst h1;subst h2;exact .d (.sc _ rfl)
   |1=>simp at h1 h2;subst h1;subst h2;exact .d (.sc _ hkv.1)
   |2=>simp at h1 h2;subst h1;subst h2;exact .d (.sc _ hkv.2)
   |j+3=>simp at h1
  ·generalize hw7:w6a.putObj r o=w7 at*
   refine wpIn_seq (wpIn_cond_true hev (wpIn_skip ?_))
   show (Code.block b1 _).wpIn (rnd ro) 0 P _ a6 w7
   refine wpIn_block ?_
   have hes:0<eops.size:=(Array.getElem?_eq_some_iff.1 hE).1
   have r7':=(hdrop [] r7).2
   have r8:=RS.put r7' hEd hlt.2.2.2 (v:= .tuple #[k,v]) (g:= .tup [.d (.sc k),.d (.sc v)]) (.tup [.d (.sc k),.d (.sc v)] #[k,v] rfl fun j g u h1 h2=>by
    match j with
    |0=>simp at h1 h2;subst h1;subst h2;exact .d (.sc _ hkv.1)
    |1=>simp at h1 h2;subst h1;subst h2;exact .d (.sc _ hkv.2)
    |j+2=>simp at h1)
   have hg:=hround r done k v rest x hperm hI5 ro ν5 F5 w7 (St.H ⟨st x,hps x,n2⟩) a6.defers ν5 F5 _ w7 r8 (hl.evo hr.rel e6) (Evo.refl _ _ _ _) (by rw[show (a6.put oE.dst (.tuple #[k,v])).defers=a6.defers by rw[hEd];rfl];exact Pin.refl _ _ _ _)
   refine wpIn_seq (wpIn_mono (Q:=GPost nt p ν5 F5 a6.defers w7 (St.H ⟨st x,hps x,n2⟩) (Exit.thenS (fun σ'=>GW P nt p y σ' fun e σ''=>e= .normal∧∃x' ρ qs,weakO p ρ σ'' ⟨(it,.ex (ptrV r) .junk)::st x',hps x',n2⟩=some qs∧AllP qs∧I (done++ [(k,v)]) x') fun e σ''=>e= .normal∧∃x' ρ qs,weakO p ρ σ'' ⟨(it,.ex (ptrV r) .junk)::st x',hps x',n2⟩=some qs∧AllP qs∧I (done++ [(k,v)]) x')) (wpIn_region ?_) ?_)
   ·have e0:List.range eops.size=0::List.range' 1 (eops.size-1):=by
     obtain ⟨z,hz⟩:∃z,eops.size=z+1:=⟨eops.size-1,by omega⟩
     rw[hz,List.range_eq_range',List.range'_succ];simp
    rw[e0]
    refine wp_one hE hEg (fun c h=>by rw[hEop]at h;cases h) (fun c h=>by rw[hEop]at h;cases h) (v:= .tuple #[k,v]) (w':=w7) ?_ hg
    have:=hent w7 rfl rfl
    simp only[execOp,hEop,hitv6,Sem.run_bind,show (Instr.entry (ptrV r)).run P w7=_ from this,Result.andThen_ok,Sem.run_pure]
   ·rintro e a8 w8 ⟨σ8,ν8,F8,q8,s8,e8,p8⟩
    cases e with
    |normal=>
     refine wpIn_mono (q8 ro ν8 F8 a8 w8 s8 ((hl.evo hr.rel e6).evo r7.rel e8)) ?_
     rintro e a9 w9 ⟨σ9,ν9,F9,⟨rfl,x',ρ',qs,hw9,hq9,hI9⟩,s9,e9,p9⟩
     obtain ⟨ν10,s10,e10,p10⟩:=(weakO_sound hw9 hq9).rs s9
     have e710:Evo ν5 F5 w7 (St.H ⟨st x,hps x,n2⟩) ν10 F9 w9 (St.H ⟨(it,.ex (ptrV r) .junk)::st x',hps x',n2⟩):=(e8.trans e9).trans e10
     have hsz7:w7.heap.size=w5.heap.size:=hs6
     have hrm7:w9.heap[rm]? =w7.heap[rm]? :=e710.frame rm (by omega) hnm5
     have hr7:w9.heap[r]? =w7.heap[r]? :=by
      obtain ⟨es',cl',c0',dl',hh,_⟩:=hit6
      rw[e710.notMine r7.rel hh rfl];exact hh.symm
     have z8:=e8.size
     have z9:=e9.size
     have z5:=e5.size
     have q1:Pin p ν ν8 a.defers a8.defers w.heap.size:=p5.trans (n':=w7.heap.size) (by rw[←hdef];exact p8) (by omega)
     have q2:Pin p ν ν9 a.defers a9.defers w.heap.size:=q1.trans p9 (by omega)
     have q3:Pin p ν ν10 a.defers a9.defers w.heap.size:=q2.trans p10 (by omega)
     have hg2:Good (L.length-(done++ [(k,v)]).length) a9 w9:=⟨x',done++ [(k,v)],ν10,F9,rfl,hI9,s10,e6.trans e710,q3,fun hm=>by
      rcases e710.mine rm hm with h|h
      ·exact hnm5 h
      ·omega,hit6.keep hr7 hrm7⟩
     refine ⟨⟨_,hg2⟩,?_⟩
     have h1:=(hμ a9 w9 ⟨_,hg2⟩).2 _ hg2
     have hlen:=hperm.length_eq
     simp only[List.length_append,List.length_cons,List.length_nil]at hlen h1
     rw[←hk5]
     omega
    |_=>cases q8.1
def MR [Laid] {α:Type} (p:Nat) (inv:α→St) (I':α→Prop):Exit→St→Prop:=fun e σ=>e= .normal∧∃x' ρ qs,weakO p ρ σ (inv x')=some qs∧AllP qs∧I' x'
theorem gk_mround {α:Type} {inv:α→St} {I':α→Prop} {σ:St} (x':α) {ps ps':List Prop} (hI:I' x') (h:weakA p σ (inv x')=some ps:=by rfl) (hf:nfP ps=some ps':=by rfl) (hp:AllP ps':=by (try simp only[AllP]);repeat' first|exact trivial|exact rfl|omega|apply And.intro):GK P nt p (MR p inv I') .skip [] σ:=
 (weakA_sound h).elim fun ρ h=>⟨rfl,x',ρ,ps,h,nfP_eq hf▸hp,hI⟩
theorem gko_region (env:Env P T) (wr:Bool) (hs:List (Hint P)) (kp:List Nat) {R:Exit→St→Prop} {ops:Array Oper} {y c':Code} {K':List Kont} {tm tm' tm1:List (Nat×G)} {h0 h1 h2:List (Nat×Option Blk)} {n n1:Nat} {feet:List Foot} {pr pr':List Prop} {hs':List (Hint P)}
 (hq:GK P nt p R c' K' ⟨tm',h2,n1⟩) (h:runG P wr T nt ops (ops.toList.drop 1) tm h0 n [] hs=some (pr,⟨tm1,h1,n1⟩,feet,hs'):=by rfl) (hg:guardsOk ops nt=true:=by kernel_rfl) (hk:keepT tm1 kp=some tm':=by rfl) (hh:nfH [] h1=some h2:=by rfl) (hn:nrm 1000 y []=some (c',K'):=by rfl) (hf:nfP pr=some pr':=by rfl)
 (hp:AllP pr':=by first|trivial|(simp only[AllP,bb,toN];repeat' first|exact trivial|exact EntL.refl _|exact BEntL.refl _|exact rfl|omega|apply And.intro|intro _|exact size_pos (by simp_all;done))):GWO P nt p ops 1 ⟨tm,h0,n⟩ (Exit.thenS (fun σ'=>GW P nt p y σ' R) R):=by
 intro ro ν0 F0 w0 H0 l0 ν F a w hr hl he hpn
 have e:List.range' 1 (ops.size-1)=List.range' 1 (ops.toList.drop 1).length++ []:=by rw[List.append_nil,List.length_drop,Array.length_toList]
 rw[e]
 refine run_textC (Q:=fun σ=>σ=⟨tm1,h1,n1⟩) hg (fun σ ν F a w q r e p=> ?_) _ _ [] 1 ⟨[],by simp⟩ (runG_sound env.ty _ _ _ _ _ _ _ h (nfP_eq hf▸hp) rfl) ν F a w hr he hpn
 subst q
 have e:St.H ⟨tm',h2,n1⟩=St.H ⟨tm1,h1,n1⟩:=nfH_eq hh
 exact ⟨⟨tm',h2,n1⟩,ν,F,(nrm_sound hn hq).gw,⟨r.pin,fun t=>keepT_get (r.vals t) kp tm' hk,e▸r.rel,r.defers,r.free,r.size,e▸r.fresh⟩,e▸(by assumption),p⟩
def allBlt (nt:Nat):List Nat→Bool
 | []=>true
 |t::l=>Nat.blt t nt&&allBlt nt l
def oneAll:List (Value×Value)→Bool
 | []=>true
 |(k,v)::l=>k.oneCell'&&v.oneCell'&&oneAll l
theorem oneAll_spec:∀ {l:List (Value×Value)},oneAll l=true→∀e,e∈l→e.1.oneCell'=true∧e.2.oneCell'=true:=by
 intro l
 induction l with
 |nil=>intro _ e h;cases h
 |cons x l ih=>
  obtain ⟨k,v⟩:=x
  intro h e he
  simp only[oneAll,Bool.and_eq_true]at h
  rcases List.mem_cons.1 he with rfl|he
  ·exact h.1
  ·exact ih h.2 e he
def rangeOf:Op→Option (TypeId×Operand)
 | .range t x=>some (t,x)
 |_=>none
theorem gk_maprange (env:Env P T) (wr:Bool) (m:Nat) (hs:List (Hint P)) {α:Type} (b it d1 d2 de n2:Nat) (L:List (Value×Value)) (I:List (Value×Value)→α→Prop) (st:α→List (Nat×G)) (hps:α→List (Nat×Option Blk)) (x0:α) {R:Exit→St→Prop} {c':Code} {K K':List Kont}
 {id bid rid eid b1:Nat} {ops rops eops:Array Oper} {oR oN oX oE:Oper} {y:Code} {hs':List (Hint P)} {tm tm1:List (Nat×G)} {h0 h1:List (Nat×Option Blk)} {n n1:Nat} {feet:List Foot} {pr pr':List Prop} {lr:List (Nat×Nat)} {ps ps':List Prop} {tR:TypeId} {xR:Operand} {eT:TyE} {kt et:TypeId}
 (hI0:I [] x0)
 (hround:∀r done k v rest x,(done++(k,v)::rest).Perm L→I done x→GWO P nt p eops 1 ⟨(de,.tup [.d (.sc k),.d (.sc v)])::(it,.ex (ptrV r) .junk)::st x,hps x,n2⟩ (Exit.thenS (fun σ'=>GW P nt p y σ' (MR p (fun x'=>⟨(it,.ex (ptrV r) .junk)::st x',hps x',n2⟩) (I (done++ [(k,v)])))) (MR p (fun x'=>⟨(it,.ex (ptrV r) .junk)::st x',hps x',n2⟩) (I (done++ [(k,v)])))))
 (hdone:∀done x,done.Perm L→I done x→GK P nt p R c' K' ⟨st x,hps x,n2⟩)
 (hone:oneAll L=true)
 (hrun:runG P wr T nt ops (ops.toList.take m) tm h0 n [] hs=some (pr,⟨tm1,h1,n1⟩,feet,hs'):=by rfl) (hR:ops[m]? =some oR:=by rfl) (hRop:rangeOf oR.op=some (tR,xR):=by rfl)
 (hl:nfN (pairH h1 (hps x0) (pairT tm1 (st x0)) (pairT tm1 (st x0)))=some lr:=by rfl) (hw:weakO p (rhoF lr) ⟨tm1,h1,n1⟩ ⟨st x0,hps x0,n2⟩=some ps:=by rfl) (hf2:nfP ps=some ps':=by rfl)
 (hgo:guardsOk ops nt=true:=by kernel_rfl) (hm:Nat.beq ops.size (m+1)=true:=by kernel_rfl) (hf:nfP pr=some pr':=by rfl) (hb:lacksB (rhoF lr) b (hps x0)=true:=by rfl)
 (hRd:oR.dst=some it:=by rfl) (hRg:oR.guard=none:=by rfl) (hRx:(⟨tm1,h1,n1⟩:St).ev xR= .mp b:=by rfl) (hmap:look h1 noHp b=some (.mp L):=by rfl) (hte:tyAt T tR=some eT:=by rfl) (hmd:mapDesc eT.desc=some (kt,et):=by rfl)
 (hN:rops.toList= [oN,oX]:=by rfl) (hNop:oN.op= .next (.tmp it) false:=by rfl) (hNd:oN.dst=some d1:=by rfl) (hNg:oN.guard=none:=by rfl) (hXop:oX.op= .extract (.tmp d1) 0:=by rfl) (hXd:oX.dst=some d2:=by rfl) (hXg:oX.guard=none:=by rfl)
 (hE:eops[0]? =some oE:=by rfl) (hEop:oE.op= .entry (.tmp it):=by rfl) (hEd:oE.dst=some de:=by rfl) (hEg:oE.guard=none:=by rfl)
 (hlt:allBlt nt [it,d1,d2,de]=true:=by rfl) (hne:it≠d1∧it≠d2∧d1≠d2:=by decide) (hst:∀x,lacksT [it,d1,d2] (st x)=true:=by intro _;rfl) (nd:nrm 1000 .skip K=some (c',K'):=by rfl)
 (hps0:AllP ps':=by (try simp only[AllP]);repeat' first|exact trivial|exact rfl|omega|apply And.intro)
 (hpr:AllP pr':=by first|trivial|(simp only[AllP,bb,toN];repeat' first|exact trivial|exact EntL.refl _|exact BEntL.refl _|exact rfl|omega|apply And.intro|intro _)):
 GK P nt p R (.seq (.region id ops false) (.block bid (.loop (.seq (.region rid rops false) (.seq (.cond (.tmp d2) .skip (.exit bid)) (.block b1 (.seq (.region eid eops false) y))))))) K ⟨tm,h0,n⟩:=by
 have hRop':oR.op= .range tR xR:=by
  unfold rangeOf at hRop;split at hRop
  ·rename_i h;cases hRop;exact h
  ·cases hRop
 simp only[allBlt,Bool.and_eq_true,Nat.blt_eq]at hlt
 exact gw_maprange env b it d1 d2 de n2 L I st hps x0 hrun hgo (nfP_eq hf▸hpr) (Nat.eq_of_beq_eq_true hm) hw (nfP_eq hf2▸hps0) hI0 hb hR hRop' hRd hRg hRx hmap hte hmd hN hNop hNd hNg hXop hXd hXg hE hEop hEd hEg ⟨hlt.1,hlt.2.1,hlt.2.2.1,hlt.2.2.2.1⟩ hne hst (oneAll_spec hone) hround (fun done x h1 h2=>(nrm_sound nd (hdone done x h1 h2):GK P nt p R .skip K _))
theorem gk_ops {id:Nat} {ops:Array Oper} {R:Exit→St→Prop} {K:List Kont} {σ:St} (h:GWO P nt p ops 0 σ (kQ P nt p R K)):GK P nt p R (.region id ops false) K σ:=fun ro ν F a w hr hl=>by
 refine wpIn_region ?_
 rw[List.range_eq_range']
 exact h ro ν F w σ.H a.defers ν F a w hr hl (Evo.refl _ _ _ _) (Pin.refl _ _ _ _)
theorem gwo_chunk (env:Env P T) (wr:Bool) (m:Nat) (hs:List (Hint P)) {ops:Array Oper} {k:Nat} {tm tm1:List (Nat×G)} {h0 h1:List (Nat×Option Blk)} {n n1:Nat} {feet:List Foot} {pr pr':List Prop} {hs':List (Hint P)} {Q:Exit→St→Prop}
 (hq:GWO P nt p ops (k+m) ⟨tm1,h1,n1⟩ Q) (h:runG P wr T nt ops ((ops.toList.drop k).take m) tm h0 n [] hs=some (pr,⟨tm1,h1,n1⟩,feet,hs'):=by rfl) (hg:guardsOk ops nt=true:=by kernel_rfl) (hm:Nat.ble (k+m) ops.size=true:=by kernel_rfl) (hf:nfP pr=some pr':=by rfl)
 (hp:AllP pr':=by first|trivial|(simp only[AllP,bb,toN];repeat' first|exact trivial|exact EntL.refl _|exact BEntL.refl _|exact rfl|omega|apply And.intro|intro _|exact size_pos (by simp_all;done))):GWO P nt p ops k ⟨tm,h0,n⟩ Q:=by
 intro ro ν0 F0 w0 H0 l0 ν F a w hr hl he hpn
 have hm':=Nat.le_of_ble_eq_true hm
 have hlen:((ops.toList.drop k).take m).length=m:=by rw[List.length_take,List.length_drop,Array.length_toList];omega
 have e:List.range' k (ops.size-k)=List.range' k ((ops.toList.drop k).take m).length++List.range' (k+m) (ops.size-(k+m)):=by
  rw[hlen]
  have:=List.range'_append_1 (s:=k) (m:=m) (n:=ops.size-(k+m))
  rw[this];congr 1;omega
 rw[e]
 exact run_textC (Q:=fun σ=>σ=⟨tm1,h1,n1⟩) (H0:=St.H ⟨tm,h0,n⟩) hg (fun σ' ν' F' a' w' q r e p=>by subst q;exact hq ro ν0 F0 w0 H0 l0 ν' F' a' w' r (hl.evo hr.rel e) (he.trans e) (hpn.trans p he.size)) _ _ [] k ⟨(ops.toList.drop k).drop m,(List.take_append_drop _ _).symm⟩ (runG_sound env.ty _ _ _ _ _ _ _ h (nfP_eq hf▸hp) rfl) ν F a w hr (Evo.refl _ _ _ _) (Pin.refl _ _ _ _)
theorem gwo_lit {ops:Array Oper} {k:Nat} (t:Nat) {b b':Bool} {tm:List (Nat×G)} {hp:List (Nat×Option Blk)} {n:Nat} {Q:Exit→St→Prop} (hb:b=b') (h:GWO P nt p ops k ⟨(t,.d (.sc (.bool b')))::tm,hp,n⟩ Q) (ht:getG tm t= .d (.sc (.bool b)):=by rfl):GWO P nt p ops k ⟨tm,hp,n⟩ Q:=by
 intro ro ν0 F0 w0 H0 l0 ν F a w hr hl he hpn
 refine h ro ν0 F0 w0 H0 l0 ν F a w ⟨hr.pin,fun t'=> ?_,hr.rel,hr.defers,hr.free,hr.size,hr.fresh⟩ hl he hpn
 show VR ν F w (bif Nat.beq t' t then _ else _) _
 cases e:Nat.beq t' t with
 |true=>
  have:=hr.vals t
  rw[Nat.eq_of_beq_eq_true e,←hb,←ht];exact this
 |false=>exact hr.vals t'
theorem gwo_end (kp:List Nat) {ops:Array Oper} {k:Nat} {tm tm':List (Nat×G)} {h1 h2:List (Nat×Option Blk)} {n:Nat} {R:Exit→St→Prop} {c':Code} {K K':List Kont} (hq:GK P nt p R c' K' ⟨tm',h2,n⟩) (hk:Nat.beq ops.size k=true:=by kernel_rfl) (hkp:keepT tm kp=some tm':=by rfl) (hh:nfH [] h1=some h2:=by rfl) (hn:nrm 1000 .skip K=some (c',K'):=by rfl):GWO P nt p ops k ⟨tm,h1,n⟩ (kQ P nt p R K):=by
 intro ro ν0 F0 w0 H0 l0 ν F a w hr hl he hpn
 rw[Nat.eq_of_beq_eq_true hk,Nat.sub_self]
 have e:St.H ⟨tm',h2,n⟩=St.H ⟨tm,h1,n⟩:=nfH_eq hh
 exact ⟨⟨tm',h2,n⟩,ν,F,(nrm_sound hn hq:GK P nt p R .skip K _),⟨hr.pin,fun t=>keepT_get (hr.vals t) kp tm' hkp,e▸hr.rel,hr.defers,hr.free,hr.size,e▸hr.fresh⟩,e▸he,hpn⟩
end
end Go.Gh
namespace Go.Gh
open Go Go.RowKit Go.Sort
set_option linter.unusedVariables false
set_option linter.unusedSectionVars false
end Go.Gh
namespace Go.Gh
open Go
set_option linter.unusedSimpArgs false
set_option linter.unusedVariables false
end Go.Gh
namespace Go.Gh
open Go
set_option linter.unusedSimpArgs false
set_option linter.unusedVariables false
variable {P:Program} {T:Tab} {o:Oper} {ρ:Operand→G} {H:Hp}
section
variable [Laid] {nt p:Nat}
end
end Go.Gh
namespace Go.Gh
open Go Go.RowKit Go.MapKept
set_option linter.unusedSimpArgs false
set_option linter.unusedVariables false
section
variable {P:Program} {T:Tab} [Laid] {nt p:Nat}
theorem gwo_lop {ops:Array Oper} {k:Nat} {o:Oper} {tm:List (Nat×G)} {hp:List (Nat×Option Blk)} {n:Nat} {Q:Exit→St→Prop} (E:Eff) (hL:LOp P o (St.ev ⟨tm,hp,n⟩) (St.H ⟨tm,hp,n⟩) E)
 (hq:GWO P nt p ops (k+1) ⟨(match o.dst with|some d=>(d,E.g)::tm|none=>tm),E.upd++hp,n⟩ Q) (hok:ops[k]? =some o:=by rfl) (hog:o.guard=none:=by rfl) (hnew:E.new= []:=by rfl)
 (hupd:(touched E).all (fun i=>E.fp.contains i)=true:=by rfl) (hfp:E.fp.all (fun i=>Nat.blt i n)=true:=by rfl) (hdn:(match o.dst with|some d=>Nat.blt d nt|none=>true)=true:=by rfl) (hg:guardsOk ops nt=true:=by kernel_rfl):GWO P nt p ops k ⟨tm,hp,n⟩ Q:=by
 intro ro ν0 F0 w0 H0 l0 ν F a w hr hl he hpn
 have hk:k<ops.size:=(Array.getElem?_eq_some_iff.1 hok).1
 have e:List.range' k (ops.size-k)=List.range' k [o].length++List.range' (k+1) (ops.size-(k+1)):=by
  have:=List.range'_append_1 (s:=k) (m:=1) (n:=ops.size-(k+1))
  rw[show [o].length=1 from rfl,this];congr 1;omega
 have hdrop:ops.toList.drop k= [o]++ops.toList.drop (k+1):=by
  have h3:ops.toList[k]? =some o:=by simpa using hok
  obtain ⟨h4,h5⟩:=List.getElem?_eq_some_iff.1 h3
  rw[List.drop_eq_getElem_cons h4,h5];rfl
 rw[e]
 have hs:SOK P ops nt ⟨tm,hp,n⟩ o ⟨true,St.ev ⟨tm,hp,n⟩,E,E.g⟩:=by
  refine ⟨by simp[wantOf,hog],fun x _ ν F w v _ h=>h,fun _=>hL,.inl ⟨rfl,rfl⟩,.inl rfl,fun j hj=> ?_,fun j hj=> ?_,fun j hj=> ?_,fun j hj=> ?_,fun d hd'=> ?_⟩
  ·rw[List.all_eq_true]at hupd
   exact .inl (by simpa using hupd j hj)
  ·rw[hnew]at hj;cases hj
  ·rw[List.all_eq_true]at hfp
   simpa using hfp j hj
  ·rw[hnew]at hj;cases hj
  ·rw[hd']at hdn;simpa using hdn
 have happ:St.app ⟨tm,hp,n⟩ o ⟨true,St.ev ⟨tm,hp,n⟩,E,E.g⟩=⟨(match o.dst with|some d=>(d,E.g)::tm|none=>tm),E.upd++hp,n⟩:=by
  unfold St.app
  rw[hnew];rfl
 exact run_textC (Q:=fun σ=>σ=⟨(match o.dst with|some d=>(d,E.g)::tm|none=>tm),E.upd++hp,n⟩) (H0:=St.H ⟨tm,hp,n⟩) hg (fun σ' ν' F' a' w' q r e p=>by subst q;exact hq ro ν0 F0 w0 H0 l0 ν' F' a' w' r (hl.evo hr.rel e) (he.trans e) (hpn.trans p he.size)) _ _ [] k ⟨_,hdrop⟩ (.cons _ _ _ _ _ hs (.nil _ _ happ)) ν F a w hr (Evo.refl _ _ _ _) (Pin.refl _ _ _ _)
end
section
variable {P:Program} {T:Tab} {o:Oper} {ρ:Operand→G} {H:Hp}
def KeysS (P:Program) (kt:TypeId) (us:List Value) (eqf:Value→Bool) (L:List (Value×Value)):Prop:=∀x,x∈L→∃vs:List Value,x.1= .agg vs.toArray∧EqC P kt us vs (eqf x.1)
theorem ask_run {kt:TypeId} {us:List Value} {eqf:Value→Bool} :∀(es:List MapEntry) (i:Nat),(∀e,e∈es→∃vs:List Value,e.key= .agg vs.toArray∧EqC P kt us vs (eqf e.key))→∃r:Option (Nat×Value),(∀w,(Instr.findAsking kt (.agg us.toArray) es i).run P w= .ok r w)∧r.map (·.2)=(es.find? fun e=>eqf e.key).map (·.val):=by
 intro es
 induction es with
 |nil=>intro i _;exact ⟨none,fun w=>rfl,rfl⟩
 |cons e es ih=>
  intro i h
  obtain ⟨vs,h1,h2⟩:=h e List.mem_cons_self
  have heq:∀w,(Op.equal kt (.agg us.toArray) e.key).run P w= .ok (eqf e.key) w:=fun w=>by
   have:=h2.1 w
   rw[←h1]at this
   exact this
  cases hb:eqf e.key with
  |true=>exact ⟨some (i,e.val),fun w=>by simp only[Instr.findAsking,Sem.run_bind,heq w,Result.andThen_ok,hb];rfl,by simp[List.find?_cons,hb]⟩
  |false=>
   obtain ⟨r,r1,r2⟩:=ih (i+1) fun e he=>h e (List.mem_cons_of_mem _ he)
   exact ⟨r,fun w=>by simp only[Instr.findAsking,Sem.run_bind,heq w,Result.andThen_ok,hb];exact r1 w,by simp[List.find?_cons,hb,r2]⟩
theorem find_run {kt:TypeId} {fs:Array Field} (hk:P.underlying kt=some (.struct fs)) {us:List Value} {eqf:Value→Bool} (es:List MapEntry) (h:∀e,e∈es→∃vs:List Value,e.key= .agg vs.toArray∧EqC P kt us vs (eqf e.key)):∃r:Option (Nat×Value),(∀w,(Instr.findKey kt (.agg us.toArray) es).run P w= .ok r w)∧r.map (·.2)=(es.find? fun e=>eqf e.key).map (·.val):=by
 cases es with
 |nil=>exact ⟨none,fun w=>by simp[Instr.findKey,run_underlying hk,Instr.findNow],rfl⟩
 |cons e es=>
  obtain ⟨r,r1,r2⟩:=ask_run (e::es) 0 h
  exact ⟨r,fun w=>by simp only[Instr.findKey,Sem.run_bind,run_underlying hk,Result.andThen_ok,Instr.findNow,Instr.sameNow];exact r1 w,r2⟩
def lookS (eqf:Value→Bool) (L:List (Value×Value)):Option Value:=(L.find? fun x=>eqf x.1).map (·.2)
theorem lookS_es {eqf:Value→Bool} (es:List MapEntry):(es.find? fun e=>eqf e.key).map (·.val)=lookS eqf (es.map fun x=>(x.key,x.val)):=by
 unfold lookS
 rw[List.find?_map]
 cases h:es.find? (fun e=>eqf e.key)with
 |none=>
  have:List.find? ((fun x:Value×Value=>eqf x.1)∘fun x:MapEntry=>(x.key,x.val)) es=none:=h
  rw[this];rfl
 |some e=>
  have:List.find? ((fun x:Value×Value=>eqf x.1)∘fun x:MapEntry=>(x.key,x.val)) es=some e:=h
  rw[this];rfl
theorem agg_inv {ν:Nu} {F:Fz} {w:World} {gs:List G} {us:List Value} {u:Value} (h:VR ν F w (.agg gs) u) (h1:cellV gs=some us):u= .agg us.toArray:=by
 cases h with
 |agg cs' arr e1 e2 k=>
  have:=(cellV_iff (ν:=ν) (F:=F) (w:=w) h1).2.2.2 arr.toList (by simpa using e1) (fun j g u a b=>k j g u a (by simpa using b))
  rw[←this]
theorem lop_lookupS [Laid] {t:TypeId} {x y:Operand} (ho:o.op= .lookup t x y false) {kt et:TypeId} (hu:P.underlying t=some (.map kt et)) {fs:Array Field} (hk:P.underlying kt=some (.struct fs)) {z:Value} (hz:∀w,(zeroValue et).run P w= .ok z w)
 {b:Nat} {gs:List G} {us:List Value} {L:List (Value×Value)} {eqf:Value→Bool} {v:Value} (hx:ρ x= .mp b) (hy:ρ y= .agg gs) (hc:cellV gs=some us) (hH:H b=some (.mp L)) (hck:∀e w,(Instr.checkKey e 10000 kt (.agg us.toArray)).run P w= .ok () w)
 (hE:KeysS P kt us eqf L) (hv:(lookS eqf L).getD z=v) (h1:v.oneCell'=true):LOp P o ρ H {g:= .d (.sc v),fp:=[b]} :=by
 refine lop_pure fun H' hf ν F w a hvv hr=> ?_
 have hH':=(hf b (by simp)).trans hH
 obtain ⟨r,q,es,cl,e1,e2,e3,e4,e5⟩:=hr.blk b _ hH'
 have vx:=hvv x (by simp[ho,Op.operands])
 have vy:=hvv y (by simp[ho,Op.operands])
 rw[hx]at vx
 rw[hy]at vy
 obtain ⟨r',k',f1,f2⟩:=vx.mp_inv
 rw[e1]at f1;injection f1 with f1;injection f1 with f1 _;subst f1
 have vy:=agg_inv vy hc
 obtain ⟨f,q1,q2⟩:=find_run hk (us:=us) (eqf:=eqf) es.toList fun e he=>hE (e.key,e.val) (by rw[←e3];exact List.mem_map.2 ⟨e,he,rfl⟩)
 rw[lookS_es,e3]at q2
 have hrun:(Instr.lookup t (a.eval x) (a.eval y) false).run P w= .ok v w:=by
  rw[f2,vy]
  simp only[Instr.lookup,Sem.run_bind,run_underlying hu,Result.andThen_ok,MapKept.run_getObj_map e2,Sem.run_pure,hck,q1]
  rw[←q2]at hv
  cases f with
  |none=>simp only[Option.map_none,Option.getD_none]at hv;subst hv;simp[hz]
  |some y=>obtain ⟨i,v'⟩:=y;simp only[Option.map_some,Option.getD_some]at hv;subst hv;rfl
 exact ⟨v,by simp only[execOp,ho,Sem.run_bind,hrun,Result.andThen_ok,Sem.run_pure],.d (.sc _ h1)⟩
theorem lop_mapAddS [Laid] {t:TypeId} {x y z:Operand} (ho:o.op= .mapUpdate t x y z) {kt et:TypeId} (hu:P.underlying t=some (.map kt et)) {fs:Array Field} (hk:P.underlying kt=some (.struct fs))
 {b:Nat} {gs:List G} {us:List Value} {L:List (Value×Value)} {eqf:Value→Bool} {v:Value} (hx:ρ x= .mp b) (hy:ρ y= .agg gs) (hz:ρ z= .d (.sc v)) (hc:cellV gs=some us) (hH:H b=some (.mp L)) (hck:∀e w,(Instr.checkKey e 10000 kt (.agg us.toArray)).run P w= .ok () w)
 (hE:KeysS P kt us eqf L) (hn:lookS eqf L=none):LOp P o ρ H {g:= .junk,upd:=[(b,some (.mp (L++ [(.agg us.toArray,v)])))],fp:=[b]} :=by
 intro H' hf hnn
 refine gop_skip fun ν F w a hv hr=> ?_
 have hH':=(hf b (by simp)).trans hH
 obtain ⟨r,q,es,cl,e1,e2,e3,e4,e5⟩:=hr.blk b _ hH'
 have vx:=hv x (by simp[ho,Op.operands])
 have vy:=hv y (by simp[ho,Op.operands])
 have vz:=hv z (by simp[ho,Op.operands])
 rw[hx]at vx
 rw[hy]at vy
 rw[hz]at vz
 obtain ⟨r',k',f1,f2⟩:=vx.mp_inv
 rw[e1]at f1;injection f1 with f1;injection f1 with f1 _;subst f1
 have vy:=agg_inv vy hc
 have hv1:v.oneCell'=true:=by cases vz with|d h=>cases h;assumption
 have vz:=vz.sc_inv
 obtain ⟨f,q1,q2⟩:=find_run hk (us:=us) (eqf:=eqf) es.toList fun e he=>hE (e.key,e.val) (by rw[←e3];exact List.mem_map.2 ⟨e,he,rfl⟩)
 rw[lookS_es,e3,hn]at q2
 have hf0:f=none:=by cases f with|none=>rfl|some y=>cases q2
 subst hf0
 have hone:∀x,x∈es.toList→x.val.oneCell'=true:=fun x hx=>e4.1 (x.key,x.val) (by rw[←e3];exact List.mem_map.2 ⟨x,hx,rfl⟩)
 have hs:=heap_set (o':=Obj.map (es.push {key:= .agg us.toArray,val:=v,born:=cl}) (cl+1)) e2
 have hb1:∀x,x∈L++ [((.agg us.toArray:Value),v)]→x.2.oneCell'=true:=fun x hx=>by
  rcases List.mem_append.1 hx with h|h
  ·exact e4.1 x h
  ·rw[List.mem_singleton.1 h];exact hv1
 have hb2:Born (es.push {key:= .agg us.toArray,val:=v,born:=cl}) (cl+1):=by
  refine ⟨?_,fun x hx=> ?_⟩
  ·rw[Array.toList_push,List.map_append,List.nodup_append]
   refine ⟨e4.2.1,by simp,fun x hx y hy e=> ?_⟩
   obtain ⟨z,hz,rfl⟩:=List.mem_map.1 hx
   have:=e4.2.2 z hz
   simp only[List.map_cons,List.map_nil,List.mem_singleton]at hy
   omega
  ·rw[Array.toList_push]at hx
   rcases List.mem_append.1 hx with h|h
   ·have:=e4.2.2 x h;omega
   ·rw[List.mem_singleton.1 h];show cl<cl+1;omega
 obtain ⟨g1,g2⟩:=hr.put (b:= .mp (L++ [(.agg us.toArray,v)])) hH' e1 (fun r' hne=>hs.2 r' hne) (w':= {w with heap:=w.heap.setIfInBounds r (.map (es.push {key:= .agg us.toArray,val:=v,born:=cl}) (cl+1))}) (by simp) (fun o ho=>absurd ho (e5 o)) rfl rfl rfl ⟨r,q,_,_,rfl,hs.1,by rw[←e3];simp,⟨hb1,hb2⟩,e5⟩ (fun o ho=>absurd ho (e5 o))
 refine ⟨_,?_,g1,g2⟩
 simp only[execOp,ho,Instr.mapUpdate,f2,vy,vz,Sem.run_bind,run_underlying hu,Result.andThen_ok,MapKept.run_getObj_map e2,Sem.run_pure,hck,q1,MapKept.run_setObj_map _ e2]
end
end Go.Gh
namespace Go.Gh
open Go Go.RowKit Go.MapKept
set_option linter.unusedSimpArgs false
set_option linter.unusedVariables false
def mdel (k:Value):List (Value×Value)→Option (List (Value×Value))
 | []=>some []
 |(k',v')::l=>match keySame k k' with
  |some true=>some l
  |some false=>match mdel k l with
   |some l'=>some ((k',v')::l')
   |none=>none
  |none=>none
theorem mdel_now {d:TypeDesc} {k:Value} (h:keyFit d k=true):∀(es:List MapEntry) (i:Nat) (L:List (Value×Value)),mdel k (es.map fun x=>(x.key,x.val))=some L→
 (Instr.findNow d k es i=some none∧L=es.map fun x=>(x.key,x.val))∨∃j e,Instr.findNow d k es i=some (some (i+j,e.val))∧es[j]? =some e∧L=(es.eraseIdx j).map fun x=>(x.key,x.val):=by
 intro es
 induction es with
 |nil=>intro i L hr;cases hr;exact .inl ⟨rfl,rfl⟩
 |cons e es ih=>
  intro i L hr
  simp only[List.map_cons,mdel]at hr
  split at hr
  ·rename_i hs;cases hr
   exact .inr ⟨0,e,by simp only[Instr.findNow,keySame_now h hs,Nat.add_zero],rfl,by simp⟩
  ·rename_i hs
   split at hr
   ·rename_i L' hL
    cases hr
    rcases ih (i+1) L' hL with ⟨h1,h2⟩|⟨j,x,h1,h2,h4⟩
    ·exact .inl ⟨by simp only[Instr.findNow,keySame_now h hs];exact h1,by rw[h2];rfl⟩
    ·exact .inr ⟨j+1,x,by simp only[Instr.findNow,keySame_now h hs];rw[h1,show i+1+j=i+(j+1)by omega],by simpa using h2,by rw[h4];simp⟩
   ·cases hr
  ·cases hr
section
variable {P:Program} {T:Tab} {o:Oper} {ρ:Operand→G} {H:Hp}
theorem lop_delete [Laid] {t kt0:TypeId} {x y:Operand} (hT:TabOK P T) (ho:o.op= .call {callee:= .builtin .delete,args:= #[x,y],argTypes:= #[t,kt0]}) {e ke:TyE} {kt et:TypeId} (te:tyAt T t=some e) (hd:mapDesc e.desc=some (kt,et)) (tk:tyAt T kt=some ke) {b:Nat} {k:Value} {L L':List (Value×Value)}
 (hx:ρ x= .mp b) (hy:ρ y= .d (.sc k)) (hH:H b=some (.mp L)) (hk:keyFit ke.desc k=true) (hp:mdel k L=some L'):
 LOp P o ρ H {g:= .junk,upd:=[(b,some (.mp L'))],fp:=[b]} :=by
 have hdd:e.desc= .map kt et:=by
  unfold mapDesc at hd;split at hd
  ·rename_i a b' he;cases hd;exact he
  ·cases hd
 intro H' hf hn
 refine gop_val fun ν F w a hv hr _=> ?_
 have hH':=(hf b (by simp)).trans hH
 obtain ⟨r,q,es,cl,e1,e2,e3,e4,e5⟩:=hr.blk b _ hH'
 have vx:=hv x (by simp[ho,Op.operands,Call.operands])
 have vy:=hv y (by simp[ho,Op.operands,Call.operands])
 rw[hx]at vx
 rw[hy]at vy
 obtain ⟨r',k',f1,f2⟩:=vx.mp_inv
 rw[e1]at f1;injection f1 with f1;injection f1 with f1 _;subst f1
 have vy:=vy.sc_inv
 have hu:P.underlying t=some (.map kt et):=by rw[(hT _ _ te).1,hdd]
 have huk:P.underlying kt=some ke.desc:=(hT _ _ tk).1
 rw[←e3]at hp
 have hone:∀x,x∈es.toList→x.val.oneCell'=true:=fun x hx=>e4.1 (x.key,x.val) (by rw[←e3];exact List.mem_map.2 ⟨x,hx,rfl⟩)
 have hL':∀es':Array MapEntry,es'.toList.map (fun x=>(x.key,x.val))=L'→es'.toList.Sublist es.toList→Rel ν F {w with heap:=w.heap.setIfInBounds r (.map es' cl)} (look [(b,some (.mp L'))] H')∧Evo ν F w H' ν F {w with heap:=w.heap.setIfInBounds r (.map es' cl)} (look [(b,some (.mp L'))] H'):=fun es' h1 h2=>by
  have hs:=heap_set (o':=Obj.map es' cl) e2
  refine hr.put hH' e1 (fun r' hne=>hs.2 r' hne) (by simp) (fun o ho=>absurd ho (e5 o)) rfl rfl rfl ⟨r,q,es',cl,rfl,hs.1,h1,⟨fun x hx=> ?_,(h2.map _).nodup e4.2.1,fun x hx=>e4.2.2 x (h2.subset hx)⟩,e5⟩ (fun o ho=>absurd ho (e5 o))
  rw[←h1]at hx
  obtain ⟨y,hy1,rfl⟩:=List.mem_map.1 hx
  exact hone y (h2.subset hy1)
 rcases mdel_now hk es.toList 0 L' hp with ⟨h1,h2⟩|⟨j,x0,h1,h2,h4⟩
 ·obtain ⟨g1,g2⟩:=hL' es h2.symm (List.Sublist.refl _)
  refine ⟨.tuple #[],_,ν,F,?_,.junk _,g1,More.refl _,fun i hi=>absurd rfl hi,g2⟩
  refine exec_builtin ho a w _ _ Builtin.delete_ (fun _ _=>rfl) ?_
  simp[Builtin.delete_,f2,vy,run_underlying hu,MapKept.run_getObj_map e2,MapKept.run_checkKey huk (keyFit_is hk),MapKept.run_findKey huk h1,MapKept.run_setObj_map _ e2,Result.andThen_ok]
 ·obtain ⟨g1,g2⟩:=hL' (es.eraseIdxIfInBounds j) (by
   have hj:j<es.size:=by simpa using (List.getElem?_eq_some_iff.1 h2).1
   rw[h4,Array.eraseIdxIfInBounds,dif_pos hj,Array.toList_eraseIdx]) (by
   unfold Array.eraseIdxIfInBounds
   split
   ·simp only[Array.toList_eraseIdx];exact List.eraseIdx_sublist _ _
   ·exact List.Sublist.refl _)
  refine ⟨.tuple #[],_,ν,F,?_,.junk _,g1,More.refl _,fun i hi=>absurd rfl hi,g2⟩
  refine exec_builtin ho a w _ _ Builtin.delete_ (fun _ _=>rfl) ?_
  rw[Nat.zero_add]at h1
  simp[Builtin.delete_,f2,vy,run_underlying hu,MapKept.run_getObj_map e2,MapKept.run_checkKey huk (keyFit_is hk),MapKept.run_findKey huk h1,MapKept.run_setObj_map _ e2,Result.andThen_ok]
theorem lop_buildMap [Laid] {t:TypeId} {x:Operand} (hT:TabOK P T) (ho:o.op= .buildSlice t 1 #[(0,x)]) {te:TyE} (h1:tyAt T t=some te) {el:TypeId} (hd:te.desc= .slice el) {ee:TyE} (h2:tyAt T el=some ee) (hz:ee.zero= .map none) (hs:ee.size=1)
 {b:Nat} (hx:ρ x= .mp b) (nx:Nat):LOp P o ρ H {g:= .sl nx 1 0 1,upd:=[(nx,some (.box [.mp b]))],new:=[nx]} :=by
 have kt:=hT _ _ h1
 have ke:=hT _ _ h2
 intro H' _ hnone
 refine gop_val fun ν F w a hv hr hnew=> ?_
 have hν:=hnew nx (by simp)
 have vx:=hv x (by simp[ho,Op.operands])
 rw[hx]at vx
 obtain ⟨r,k,f1,f2⟩:=vx.mp_inv
 have hrun:(execOp a.eval o).run P w= .ok (.value (.slice (some ⟨w.heap.size,0,none⟩) 1 1)) (w.alloc (.cells #[.map (some r)] el)):=by
  simp only[execOp,ho,Instr.buildSlice,Sem.run_bind,kt.under w,Result.andThen_ok,hd,ke.sizeOf w,hs]
  simp only[ke.zeroV w,hz,Sem.run_bind,Sem.run_pure,Result.andThen_ok]
  have hA:∀g:Nat→Value,((Array.range 1).map g).setIfInBounds 0 (Value.map (some r))= #[Value.map (some r)]:=fun g=>by
   have:Array.range 1= #[0]:=by decide
   rw[this];apply Array.ext';simp
  simp[f2,Instr.fill,Value.cells,ke.zeroV w,hz,hA]
  rfl
 have hk:Keep F w F (w.alloc (.cells #[.map (some r)] el)):=keep_alloc (fun b o hb=>hr.old_lt hb) _
 have hbr:BR (addNu ν nx w.heap.size 1) F (w.alloc (.cells #[.map (some r)] el)) (some (w.heap.size,1)) (.box [.mp b]):=by
  refine ⟨w.heap.size,1,_,el,rfl,heap_alloc_new w _,rfl,fun u hu=> ?_,fun j g u h1 h2=> ?_,fun o ho=>by have:=hr.old_lt ho;omega⟩
  ·simp at hu;subst hu;rfl
  ·match j with
   |0=>
    simp at h1 h2
    subst h1 h2
    exact .mp _ _ k ((More.add hν) _ _ f1)
   |j+1=>simp at h1
 obtain ⟨r1,r2⟩:=hr.add hν (hnone nx (by simp)) _ hbr
 refine ⟨_,_,addNu ν nx w.heap.size 1,F,hrun,?_,r1,More.add hν,fun i hi=> ?_,r2⟩
 ·exact .sl _ _ _ _ _ _ (fun _=>⟨w.heap.size,1,addNu_same _ _ _ _,by rw[Nat.zero_mul],by omega,by omega⟩) (fun h _=>absurd h (by decide)) (Nat.le_refl _)
 ·by_cases e:i=nx
  ·simp[e]
  ·exact absurd (addNu_other ν e) hi
end
section
variable {P:Program} {T:Tab} [Laid] {nt p:Nat}
theorem gwo_lopN {ops:Array Oper} {k:Nat} {o:Oper} {tm:List (Nat×G)} {hp:List (Nat×Option Blk)} {n:Nat} {Q:Exit→St→Prop} (g:G) (bl:Blk) (fp:List Nat) (hL:LOp P o (St.ev ⟨tm,hp,n⟩) (St.H ⟨tm,hp,n⟩) {g:=g,upd:=[(n,some bl)],fp:=fp,new:=[n]})
 (hq:GWO P nt p ops (k+1) ⟨(match o.dst with|some d=>(d,g)::tm|none=>tm),(n,some bl)::hp,n+1⟩ Q) (hok:ops[k]? =some o:=by rfl) (hog:o.guard=none:=by rfl)
 (hfp:fp.all (fun i=>Nat.blt i n)=true:=by rfl) (hdn:(match o.dst with|some d=>Nat.blt d nt|none=>true)=true:=by rfl) (hg:guardsOk ops nt=true:=by kernel_rfl):GWO P nt p ops k ⟨tm,hp,n⟩ Q:=by
 intro ro ν0 F0 w0 H0 l0 ν F a w hr hl he hpn
 have hk:k<ops.size:=(Array.getElem?_eq_some_iff.1 hok).1
 have e:List.range' k (ops.size-k)=List.range' k [o].length++List.range' (k+1) (ops.size-(k+1)):=by
  have:=List.range'_append_1 (s:=k) (m:=1) (n:=ops.size-(k+1))
  rw[show [o].length=1 from rfl,this];congr 1;omega
 have hdrop:ops.toList.drop k= [o]++ops.toList.drop (k+1):=by
  have h3:ops.toList[k]? =some o:=by simpa using hok
  obtain ⟨h4,h5⟩:=List.getElem?_eq_some_iff.1 h3
  rw[List.drop_eq_getElem_cons h4,h5];rfl
 rw[e]
 have hs:SOK P ops nt ⟨tm,hp,n⟩ o ⟨true,St.ev ⟨tm,hp,n⟩, {g:=g,upd:=[(n,some bl)],fp:=fp,new:=[n]},g⟩:=by
  refine ⟨by simp[wantOf,hog],fun x _ ν F w v _ h=>h,fun _=>hL,.inl ⟨rfl,rfl⟩,.inl rfl,fun j hj=> ?_,fun j hj=> ?_,fun j hj=> ?_,fun j hj=> ?_,fun d hd'=> ?_⟩
  ·exact .inr (by simpa [touched]using hj)
  ·simp at hj;subst hj;exact ⟨Nat.le_refl _,by simp⟩
  ·rw[List.all_eq_true]at hfp
   simpa using hfp j hj
  ·simpa [touched]using hj
  ·rw[hd']at hdn;simpa using hdn
 have happ:St.app ⟨tm,hp,n⟩ o ⟨true,St.ev ⟨tm,hp,n⟩, {g:=g,upd:=[(n,some bl)],fp:=fp,new:=[n]},g⟩=⟨(match o.dst with|some d=>(d,g)::tm|none=>tm),(n,some bl)::hp,n+1⟩:=rfl
 exact run_textC (Q:=fun σ=>σ=⟨(match o.dst with|some d=>(d,g)::tm|none=>tm),(n,some bl)::hp,n+1⟩) (H0:=St.H ⟨tm,hp,n⟩) hg (fun σ' ν' F' a' w' q r e p=>by subst q;exact hq ro ν0 F0 w0 H0 l0 ν' F' a' w' r (hl.evo hr.rel e) (he.trans e) (hpn.trans p he.size)) _ _ [] k ⟨_,hdrop⟩ (.cons _ _ _ _ _ hs (.nil _ _ happ)) ν F a w hr (Evo.refl _ _ _ _) (Pin.refl _ _ _ _)
end
theorem Rel.fresh [Laid] {ν:Nu} {F:Fz} {w w':World} {H:Hp} (hr:Rel ν F w H) (hb:Below w.heap.size w w') {nx g k:Nat} (hν:ν nx=none) (hHn:H nx=none) (hg:w.heap.size≤g) {blk:Blk} (hblk:BR (addNu ν nx g k) F w' (some (g,k)) blk):
 Rel (addNu ν nx g k) F w' (look [(nx,some blk)] H)∧Evo ν F w H (addNu ν nx g k) F w' (look [(nx,some blk)] H):=by
 obtain ⟨hr',he'⟩:=of_below hr hb
 have hk:=he'.keep
 have hlt:∀i r k,(H i).isSome=true→ν i=some (r,k)→r<w.heap.size:=fun i r k a b=>hr.mine_lt ⟨i,k,a,b⟩
 have old:∀i,i≠nx→look [(nx,some blk)] H i=H i:=fun i hi=>by rw[look_cons_other hi];rfl
 refine ⟨⟨fun i j r ki kj hi hj ei ej=> ?_,fun i b hi=> ?_,hr'.old,hr'.glob⟩,⟨hk,he'.os,he'.tape,he'.output,he'.size,fun r h1 _=>hb.block r h1,fun r hm=> ?_,fun b o h=> .inl h⟩⟩
 ·by_cases x1:i=nx<;>by_cases x2:j=nx
  ·rw[x1,x2]
  ·subst x1
   rw[addNu_same]at ei;injection ei with ei;injection ei with ei1 ei2
   rw[addNu_other ν x2]at ej;rw[old j x2]at hj
   have:=hlt j r kj hj ej
   omega
  ·subst x2
   rw[addNu_same]at ej;injection ej with ej;injection ej with ej1 ej2
   rw[addNu_other ν x1]at ei;rw[old i x1]at hi
   have:=hlt i r ki hi ei
   omega
  ·rw[addNu_other ν x1]at ei;rw[addNu_other ν x2]at ej;rw[old i x1]at hi;rw[old j x2]at hj
   exact hr.inj i j r ki kj hi hj ei ej
 ·by_cases x1:i=nx
  ·subst x1;rw[look_cons_same]at hi;injection hi with hi;subst hi;rw[addNu_same];exact hblk
  ·rw[old i x1]at hi
   rw[addNu_other ν x1]
   exact (hr'.blk i b hi).keep (Keep.refl _ _) (More.add hν) (fun _ _ _=>rfl) (fun _ _ _ _=>Iff.rfl)
 ·obtain ⟨i,k',hi,ei⟩:=hm
  by_cases x1:i=nx
  ·subst x1
   rw[addNu_same]at ei;injection ei with ei;injection ei with ei1 ei2
   exact .inr (by omega)
  ·rw[addNu_other ν x1]at ei;rw[old i x1]at hi
   exact .inl ⟨i,k',hi,ei⟩
theorem Rel.more [Laid] {ν:Nu} {F Fn:Fz} {w w':World} {H:Hp} (hr:Rel ν F w H) (h2:Below w.heap.size w w') (h3:∀b o,Fn b o→w.heap.size≤b∧(w'.cell? ⟨b,o,none⟩).isSome=true):
 Rel ν (fun b o=>F b o∨Fn b o) w' H∧Evo ν F w H ν (fun b o=>F b o∨Fn b o) w' H∧Keep Fn w' (fun b o=>F b o∨Fn b o) w':=by
 obtain ⟨r1,r2⟩:=of_below hr h2
 have hk:Keep F w' (fun b o=>F b o∨Fn b o) w':=⟨fun _ _ h=> .inl h,fun _ _ _=>rfl,fun _ _ _=>rfl⟩
 have hkn:Keep Fn w' (fun b o=>F b o∨Fn b o) w':=⟨fun _ _ h=> .inr h,fun _ _ _=>rfl,fun _ _ _=>rfl⟩
 refine ⟨⟨r1.inj,fun i b hi=>(r1.blk i b hi).keep hk (More.refl _) (fun _ _ _=>rfl) (fun r k e o=>⟨fun ho=>ho.elim id fun ho=> ?_,.inl⟩),fun b o ho=>ho.elim (r1.old b o) fun ho=>(h3 b o ho).2,r1.glob.keep hk⟩,
  ⟨r2.keep.trans hk,r2.os,r2.tape,r2.output,r2.size,r2.frame,r2.mine,fun b o ho=>ho.elim .inl fun ho=> .inr (.inr (h3 b o ho).1)⟩,hkn⟩
 have h5:=(h3 r o ho).1
 have h6:=hr.mine_lt ⟨i,k,by rw[hi];rfl,e⟩
 omega
section
variable {P:Program} {nt p:Nat} {R:Exit→St→Prop} {c c':Code} {K:List Kont} {σ:St}
theorem gk_loopS [Laid] {α:Type} (I:α→Prop) (inv:α→St) (m:α→Nat) (a0:α) {ps ps':List Prop} {K1:α→List Kont} (hI:I a0) (h:∀x,I x→GK P nt p R c' (K1 x) (inv x)) (h0:weakA p σ (inv a0)=some ps:=by rfl) (hf:nfP ps=some ps':=by rfl) (hn:∀x,nrm 1000 c (.goal (ToL p I inv m x)::K)=some (c',K1 x):=by exact fun _=>rfl)
 (hp:AllP ps':=by simp[AllP]):GK P nt p R (.loop c) K σ:=
 (weakA_sound h0).elim fun ρ h0=>gw_for (α:=ULift {x:α//I x}) (fun x=>inv x.down.1) (fun x=>m x.down.1) ⟨a0,hI⟩ ρ h0 (nfP_eq hf▸hp) fun x=>gw_mono (nrm_sound (hn x.down.1) (h x.down.1 x.down.2)).gw fun e σ' hq=>by
  cases e with
  |normal=>
   obtain ⟨x',ρ',qs,h1,h2,h3,h4⟩:=hq
   exact ⟨⟨x',h2⟩,ρ',qs,h1,h4,h3⟩
  |_=>exact hq
end
end Go.Gh
namespace Go.Gh
open Go Go.RowKit Go.Sort
set_option linter.unusedVariables false
set_option linter.unusedSectionVars false
def LinkV {α:Type} (cs:α→List D) (es:Nat) (zs:List α) (zv:Array Value):Prop:=
 zv.size=zs.length*es∧∀(i:Nat) e (j:Nat) x,zs[i]? =some e→(cs e)[j]? =some x→∃v,x= .sc v∧zv[i*es+j]? =some v∧v.oneCell'=true
theorem gm_putV [Laid] {P:Program} {f:FuncId} {fn:Func} {c:Code} {ty es:Nat} {α:Type} {df:α} {cs:α→List D} {zs out:List α} {zv ov:Array Value} {fv:Value} (hf:P.funcs[f]? =some fn) (hb:fn.body=some c) (hname:(fn.name== "runtime.NumGoroutine")=false) (hlen:out.length=zs.length) (hes:0<es)
 (hlz:LinkV cs es zs zv) (hlo:LinkV cs es out ov) (hco:∀e,e∈out→(cs e).length=es)
 (h:zs≠ []→∀blk cap (w:World),Holds id w blk 0 zv→blk<w.heap.size→Calls P f #[.slice (some ⟨blk,0,none⟩) zs.length cap,fv] w fun e w'=>e= .returned (.tuple #[])∧∃n os,w'=Sort.grow (putRow id (Sort.ahead w n) blk 0 ov) os)
 (h0:zs= []→∀A cap (w:World),Calls P f #[.slice A 0 cap,fv] w fun e w'=>e= .returned (.tuple #[])∧w'=w):
 GM P f [.sl 0 es 0 zs.length,.d (.sc fv)] [.row ty es df cs zs 0] (.tup []) [some (.row ty es df cs out 0)]:=by
 refine ⟨⟨fn,c,hf,hb,hname⟩,fun ν F w vs hr hν hv=> ?_⟩
 obtain ⟨u,rfl,hu⟩:∃u,vs= #[u,fv]∧VR ν F w (.sl 0 es 0 zs.length) u:=by
  obtain ⟨l⟩:=vs
  match l,hv.1 with
  | [u,u2],_=>
    have h2:=hv.2 1 _ u2 rfl rfl
    have:=h2.sc_eq.1
    subst this
    exact ⟨u,rfl,hv.2 0 _ u rfl rfl⟩
 have hg0:∀w',VR ν F w' (.tup []) (.tuple #[]):=fun w'=> .tup [] #[] rfl (fun j g u a b=>by simp at a)
 by_cases hz:zs= []
 ·subst hz
  have ho:out= []:=List.length_eq_zero_iff.1 (by simpa using hlen)
  subst ho
  cases hu with
  |sl b es' i n A c h1 h2 h3=>
   refine (h0 rfl A c w).mono fun e w' ⟨he,hw⟩=> ?_
   subst hw
   have e:hpR [some (Blk.row ty es df cs [] 0)]=hpF [Blk.row ty es df cs [] 0]:=by
    funext i;match i with
    |0=>rfl
    |i+1=>rfl
   exact ⟨ν,F,_,he,hg0 _,e▸hr,fun _ _=>rfl,hν,e▸Evo.refl _ _ _ _⟩
 ·have hpos:0<zs.length:=List.length_pos_iff.2 hz
  cases hu with
  |sl b es' i n A cp h1 h2 h3=>
   obtain ⟨r,k,e1,rfl,h4,h5⟩:=h1 hpos
   have hbr:=hr.blk 0 (.row ty es df cs zs 0) rfl
   rcases hbr with ⟨e2,_⟩|⟨r',k',arr,e2,a1,a2,a3,a4,a5,a6,a7,a8,a9⟩
   ·rw[e1]at e2;cases e2
   ·rw[e1]at e2;cases e2
    rw[Nat.zero_mul,Nat.sub_zero,Nat.zero_add]at*
    subst h5
    have hle:zs.length*es≤cp*es:=Nat.mul_le_mul_right _ a4
    have split:∀t n,t<n*es→t/es<n∧t % es<es∧t/es*es+t % es=t:=fun t n ht=>
     ⟨Nat.div_lt_of_lt_mul (by rw[Nat.mul_comm];exact ht),Nat.mod_lt _ hes,by rw[Nat.mul_comm];exact Nat.div_add_mod t es⟩
    have hcell:∀t (ht:t<zv.size),arr[t]? =some zv[t]:=fun t ht=>by
     have ht2:t<zs.length*es:=by rw[←hlz.1];exact ht
     obtain ⟨q1,q2,q3⟩:=split t _ ht2
     have hla:=a5 zs[t/es] (List.getElem_mem q1)
     obtain ⟨v,p1,p2,p3⟩:=hlz.2 (t/es) zs[t/es] (t % es) _ (List.getElem?_eq_getElem q1) (List.getElem?_eq_getElem (by rw[hla];exact q2))
     rw[q3]at p2
     have hta:t<arr.size:=by rw[a3];omega
     have:=a7 (t/es) zs[t/es] (t % es) (.sc v) arr[t] (List.getElem?_eq_getElem q1) (by rw[←p1];exact List.getElem?_eq_getElem (by rw[hla];exact q2)) (by rw[q3];exact Array.getElem?_eq_getElem hta)
     rw[Array.getElem?_eq_getElem hta]
     generalize arr[t]=u at this⊢
     cases this
     rw[Array.getElem?_eq_getElem ht]at p2
     exact p2.symm▸rfl
    have hH:Holds id w r 0 zv:=fun j hj=>by
     refine ⟨?_,?_⟩
     ·simp only[World.cell?,a1,Nat.zero_add]
      rw[hcell j hj,getElem!_pos zv j hj];rfl
     ·simp[World.frozen?,a1]
    have hlt:r<w.heap.size:=(Array.getElem?_eq_some_iff.1 a1).1
    refine (h hz r cp w hH hlt).mono fun e w' ⟨he,n,os,hw⟩=> ?_
    have hos:ov.size=zs.length*es:=by rw[hlo.1,hlen]
    have hheap:∀q,q<w.heap.size→w'.heap[q]? =if q=r then some (.cells (putCells id 0 ov arr) ty (0,0))else w.heap[q]? :=fun q hq=>by
     subst hw
     show (((Sort.ahead w n).heap.modify r (onCells (putCells id 0 ov)))++os)[q]? =_
     rw[Array.getElem?_append_left (by simpa using hq),Array.getElem?_modify]
     by_cases e:r=q
     ·subst e;simp only[if_true];show ((w.heap[r]?).map _)=_;rw[a1];rfl
     ·rw[if_neg e,if_neg (fun h=>e h.symm)];rfl
    have hsz:w.heap.size≤w'.heap.size:=by subst hw;simp[grow,putRow,mapBlock,Sort.ahead]
    have hnF:∀o,¬F r o:=fun o ho=>by have:=(a8 o).1 ho;omega
    have hk:Keep F w F w':=⟨fun _ _ h=>h,fun b o hb=>by
     have hbl:=hr.old_lt hb
     have hne:b≠r:=fun e=>hnF o (e▸hb)
     simp only[World.cell?,hheap b hbl,if_neg hne],fun b o hb=>by
     have hbl:=hr.old_lt hb
     have hne:b≠r:=fun e=>hnF o (e▸hb)
     exact szAt_of (by rw[hheap b hbl,if_neg hne])⟩
    have hps:(putCells id 0 ov arr).size=arr.size:=by simp[putCells]
    have hpc:∀j (hj:j<ov.size),(putCells id 0 ov arr)[j]? =some ov[j]:=fun j hj=>by
     have hja:j<arr.size:=by rw[a3];omega
     simp only[putCells,Array.getElem?_mapIdx,Array.getElem?_eq_getElem hja,Option.map_some]
     rw[if_pos ⟨Nat.zero_le _,by simpa using hj⟩,Nat.sub_zero,getElem!_pos ov j hj];rfl
    have hov:∀j (hj:j<ov.size),ov[j].oneCell'=true:=fun j hj=>by
     have ht2:j<out.length*es:=by rw[←hlo.1];exact hj
     obtain ⟨q1,q2,q3⟩:=split j _ ht2
     have hla:=hco out[j/es] (List.getElem_mem q1)
     obtain ⟨v,p1,p2,p3⟩:=hlo.2 (j/es) out[j/es] (j % es) _ (List.getElem?_eq_getElem q1) (List.getElem?_eq_getElem (by rw[hla];exact q2))
     rw[q3,Array.getElem?_eq_getElem hj]at p2
     injection p2 with p2
     rw[p2];exact p3
    have hone:∀u,u∈(putCells id 0 ov arr).toList→u.oneCell'=true:=fun u hu=>by
     obtain ⟨j,hj,rfl⟩:=List.mem_iff_getElem.1 hu
     simp only[Array.length_toList]at hj
     have hja:j<arr.size:=by rw[←hps];exact hj
     rw[Array.getElem_toList]
     by_cases hjo:j<ov.size
     ·have:=hpc j hjo
      rw[Array.getElem?_eq_getElem hj]at this
      injection this with this
      rw[this];exact hov j hjo
     ·simp only[putCells,Array.getElem_mapIdx]
      rw[if_neg (by intro h;exact hjo (by simpa using h.2))]
      exact a6 _ (by simp)
    have hinj:∀(i j r k k':Nat),(hpR [some (Blk.row ty es df cs out 0)] i).isSome=true→(hpR [some (Blk.row ty es df cs out 0)] j).isSome=true→ν i=some (r,k)→ν j=some (r,k')→i=j:=fun i j r k k' hi hj _ _=>by
     match i,j with
     |0,0=>rfl
     |i+1,_=>simp[hpR]at hi
     |0,j+1=>simp[hpR]at hj
    refine ⟨ν,F,_,he,hg0 w',⟨hinj,fun i b hi=> ?_,fun b o hb=>by rw[hk.same b o hb];exact hr.old b o hb,hr.glob.keep hk⟩,fun _ _=>rfl,hν,⟨hk,by subst hw;rfl,by subst hw;rfl,by subst hw;rfl,hsz,fun q hq hm=> ?_,fun q hq=> .inl ?_,fun b o hb=> .inl hb⟩⟩
    ·match i with
     |0=>
      cases hi
      refine .inr ⟨r,cp,_,e1,by rw[hheap r hlt,if_pos rfl],a2,by rw[hps,a3],by omega,hco,hone,fun i e j x u q1 q2 q3=> ?_,fun o=>⟨fun h=>(hnF o h).elim,fun h=>by omega⟩,Nat.zero_le _⟩
      have hi':=(List.getElem?_eq_some_iff.1 q1).1
      obtain ⟨v,p1,p2,p3⟩:=hlo.2 i e j x q1 q2
      have hjo:=(Array.getElem?_eq_some_iff.1 p2).1
      rw[hpc _ hjo]at q3
      rw[Array.getElem?_eq_getElem hjo]at p2
      rw[p2]at q3
      injection q3 with q3
      subst q3 p1
      exact .sc _ p3
     |i+1=>simp[hpR]at hi
    ·rw[hheap q hq,if_neg]
     intro e
     exact hm ⟨0,cp,rfl,by rw[e];exact e1⟩
    ·obtain ⟨i,k,hi,e⟩:=hq
     match i with
     |0=>exact ⟨0,k,rfl,e⟩
     |i+1=>simp[hpR]at hi
end Go.Gh
namespace Go.Gh
open Go Go.RowKit
set_option linter.unusedVariables false
theorem FR.drop {F:Fz} {w:World} {L:List (List D)} {vs:List Value} (h:FR F w 1 L vs) (i:Nat):FR F w 1 (L.drop i) (vs.drop i):=by
 refine ⟨by rw[List.length_drop,List.length_drop,h.len];omega,fun u hu=>h.one u (List.mem_of_mem_drop hu),fun j e a=> ?_,fun j e j' x u a b c=> ?_⟩
 ·rw[List.getElem?_drop]at a;exact h.el _ e a
 ·rw[List.getElem?_drop]at a c
  exact h.val (i+j) e j' x u a b (by rw[show (i+j)*1+j'=i+(j*1+j')by omega];exact c)
theorem rowL_app {α:Type} (cs:α→List D) (a b:List α):rowL cs (a++b)=rowL cs a++rowL cs b:=by simp[rowL]
theorem rowL_drop {α:Type} (cs:α→List D) (a:List α) (i:Nat):rowL cs (a.drop i)=(rowL cs a).drop i:=by simp[rowL]
theorem run_append_off [Laid] {P:Program} {ν:Nu} {F:Fz} {w:World} {H:Hp} (hr:Rel ν F w H) {t tx ty el:TypeId} {e:TyE} (ht:P.underlying t=some (.slice el)) (ke:TyOK P el e) (he1:e.size=1) (hb1:0<e.bytes) (hz1:allOne e.zero=true) (hzs:e.zero.cells.size=e.size)
 {b i n:Nat} {α:Type} {df:α} {cs:α→List D} {xs:List α} (hH:H b=some (.row el 1 df cs xs 0)) (hin:i+n=xs.length) {vd:Value} (hvd:VR ν F w (.sl b 1 i n) vd)
 {x:Value} {m:Nat} {news:List Value} (hs:Src P e.size tx x m news w) (hm:0<m) {Ls:List (List D)} (hfs:FR F w 1 Ls news) (hbound:(n+m)*e.bytes≤140737488355328)
 {zs:List α} (hzl:rowL cs zs=rowL cs (xs.drop i)++Ls) (hlen:zs.length=n+m) {nx:Nat} (hν:ν nx=none) (hHn:H nx=none):
 ∃(v':Value) (w':World) (ν':Nu) (F':Fz) (pre:List α),(Builtin.append_ #[t,tx] ty #[vd,x]).run P w= .ok v' w'∧VR ν' F' w' (.sl nx 1 pre.length (n+m)) v'∧Rel ν' F' w' (look [(nx,some (.row el 1 df cs (pre++zs) 0)),(b,none)] H)∧
  More ν ν'∧(∀i,ν' i≠ν i→i=nx)∧Evo ν F w H ν' F' w' (look [(nx,some (.row el 1 df cs (pre++zs) 0)),(b,none)] H):=by
 obtain ⟨i0,hi,hi1,hi2,hi3⟩:=ke.info
 have hmax:n+m≤maxLen:=by
  have:(n+m)*1≤(n+m)*e.bytes:=Nat.mul_le_mul_left _ hb1
  unfold maxLen;omega
 obtain ⟨A,c,rfl,k1,k2,k3⟩:=hvd.sl_inv
 have k4:=hvd.sl_inv4
 have hi1':i0.size=1:=hi1.trans he1
 have hs1:Src P 1 tx x m news w:=he1▸hs
 have hnl:news.length=m:=by have:=hs1.newsLen;omega
 have hblk:=hr.blk b _ hH
 have hlook:∀blk:Blk,look [(nx,some blk),(b,none)] H=look ((nx,some blk)::delO (some b)) H:=fun _=>rfl
 by_cases hroom:n+m≤c
 ·obtain ⟨r,k,e1,rfl,hik,hc⟩:∃r k,ν b=some (r,k)∧A=some ⟨r,i,none⟩∧i≤k∧c=k-i:=by
   rcases Nat.eq_zero_or_pos n with hn|hn
   ·rcases Nat.eq_zero_or_pos i with h0|h0
    ·rcases k2 hn h0 with ⟨r,k,f1,f2,f3⟩|⟨_,f2⟩
     ·exact ⟨r,k,f1,by rw[f2,h0],by omega,by omega⟩
     ·omega
    ·rcases k4 hn h0 with h|⟨r,k,f1,f2,f3,f4⟩
     ·omega
     ·exact ⟨r,k,f1,by rw[f2,Nat.mul_one],f3,f4⟩
   ·obtain ⟨r,k,f1,f2,f3,f4⟩:=k1 hn
    exact ⟨r,k,f1,by rw[f2,Nat.mul_one],by omega,f4⟩
  rcases hblk with ⟨q1,_,_⟩|⟨r',q,arr,q1,q2,q2',q3,q4,q5,q6,q7,q8,q9⟩
  ·rw[e1]at q1;cases q1
  ·rw[e1]at q1;injection q1 with q1;injection q1 with q1 q1';subst q1 q1'
   rw[Nat.mul_one]at q3
   have hal:arr.toList.length=k:=by simpa using q3
   have hfr0:=row_FR (F:=F) (w:=w) (r:=r) (ty:=el) (by rw[q3,Nat.mul_one]:arr.size=k*1) q4 q5 q6 q7
   rw[Nat.mul_one]at hfr0
   have hin2:∀j,j<news.length→i+n+j<arr.size:=fun j hj=>by omega
   have hrun:=run_append_room_src (P:=P) w t tx ty el i0 ht hi r i n c x m news (by rw[hi1'];exact hs1) hroom (fun j hj=>by rw[hi1',Nat.mul_one,cell_at q2];simp[hin2 j hj]) (fun j hj=>by simp[World.frozen?,q2])
   rw[hi1',Nat.mul_one]at hrun
   have hset:w.setCells r (i+n) news=w.setRow r (arr.toList.take (i+n)++news++arr.toList.drop (i+n+news.length)).toArray:=by
    have s1:=run_storeCells_at (P:=P) r (i+n) el news 0 arr w q2 (by omega) hs1.one
    have s2:=run_storeCells_cells (P:=P) r (i+n) news 0 w (fun j hj=>by rw[Nat.add_zero,cell_at q2];simp[hin2 j hj]) (fun j hj=>by simp[World.frozen?,q2]) hs1.one
    rw[s2]at s1
    simp only[Nat.add_zero]at s1
    injection s1
   rw[hset]at hrun
   generalize hvs:(arr.toList.take (i+n)++news++arr.toList.drop (i+n+news.length))=vs at hrun
   have hvl:vs.length=k:=by
    rw[←hvs,List.length_append,List.length_append,List.length_take,List.length_drop,hnl,hal];omega
   have hw':=setRow_heap w r arr vs.toArray el (0,0) q2
   have hnF:∀o,¬F r o:=fun o ho=>by have:=(q8 o).1 ho;omega
   have hk:Keep F w F (w.setRow r vs.toArray):=⟨fun _ _ h=>h,fun b' o' hb'=>by
    have hbr:b'≠r:=fun e=>hnF o' (e▸hb')
    simp only[World.cell?,setRow_other w r b' _ hbr],fun b' o' hb'=>by
    have hbr:b'≠r:=fun e=>hnF o' (e▸hb')
    exact szAt_of (setRow_other w r b' _ hbr)⟩
   have hrows:rowL cs (xs.take i++zs)=rowL cs xs++Ls:=by
    rw[rowL_app,hzl,←List.append_assoc,←rowL_app,List.take_append_drop]
   have hfr:FR F w 1 (rowL cs (xs.take i++zs)) (arr.toList.take xs.length++news):=hrows▸hfr0.append hfs
   have hpl:(xs.take i).length=i:=by rw[List.length_take];omega
   have hbr:BR (addNu ν nx r k) F (w.setRow r vs.toArray) (some (r,k)) (.row el 1 df cs (xs.take i++zs) 0):=
    (hfr.keep hk).BR hw' q2' (by simp[hvl]) (by rw[List.length_append,hpl];omega) (by
     rw[List.length_append,hpl,hlen,Nat.mul_one,←hvs,←hin]
     rw[List.take_append_of_le_length (by rw[List.length_append,List.length_take,hnl,hal];omega)]
     rw[List.take_of_length_le (by rw[List.length_append,List.length_take,hnl,hal];omega)]) (fun u hu=>by
     have hu':u∈vs:=by simpa using hu
     rw[←hvs]at hu'
     rcases List.mem_append.1 hu' with h|h
     ·rcases List.mem_append.1 h with h|h
      ·exact q6 u (List.mem_of_mem_take h)
      ·exact hs1.one u h
     ·exact q6 u (List.mem_of_mem_drop h)) (fun o=>⟨fun ho=>(hnF o ho).elim,fun ho=>by omega⟩) (Nat.zero_le _)
   obtain ⟨h1,h2⟩:=hr.moved hν hHn (ob:=some b) (g:=r) (k':=k) (.inr ⟨b,k,rfl,by rw[hH];rfl,e1⟩) (fun r' _ hr'=>setRow_other w r r' _ hr') (by simp[World.setRow]) rfl rfl rfl hk (fun _ _ h=> .inl h) (fun o ho=>(hnF o ho).elim) hbr
   refine ⟨_,_,addNu ν nx r k,F,xs.take i,hrun,?_,h1,More.add hν,fun j hj=> ?_,h2⟩
   ·rw[hpl]
    exact .sl _ _ _ _ _ _ (fun _=>⟨r,k,addNu_same _ _ _ _,by rw[Nat.mul_one],by omega,hc⟩) (fun h0 _=>absurd h0 (by omega)) hroom (fun h0 _=>absurd h0 (by omega))
   ·exact Classical.byContradiction fun hne=>hj (addNu_other ν hne)
 ·
  have holds:∃olds:List Value,FR F w 1 (rowL cs (xs.drop i)) olds∧(Builtin.firstCells 1 n (.slice A n c)).run P w.drew= .ok olds.toArray w.drew:=by
   rcases Nat.eq_zero_or_pos n with hn|hn
   ·have hx:xs.drop i= []:=List.drop_eq_nil_of_le (by omega)
    rw[hx,hn]
    refine ⟨[],FR.nil _ _ _,?_⟩
    rcases A with _|ad
    ·exact run_firstCells_none w.drew 1 0 0 c
    ·exact run_firstCells_some w.drew 1 0 ad 0 c [] rfl (fun j u hu=>by simp at hu)
   ·obtain ⟨r,k,e1,rfl,hik,hc⟩:=k1 hn
    rcases hblk with ⟨q1,_,_⟩|⟨r',q,arr,q1,q2,q2',q3,q4,q5,q6,q7,q8,q9⟩
    ·rw[e1]at q1;cases q1
    ·rw[e1]at q1;injection q1 with q1;injection q1 with q1 q1';subst q1 q1'
     rw[Nat.mul_one]at q3
     have hfr0:=row_FR (F:=F) (w:=w) (r:=r) (ty:=el) (by rw[q3,Nat.mul_one]:arr.size=k*1) q4 q5 q6 q7
     rw[Nat.mul_one]at hfr0
     have hal:arr.toList.length=k:=by simpa using q3
     refine ⟨(arr.toList.take xs.length).drop i,rowL_drop cs xs i▸hfr0.drop i,run_firstCells_some w.drew 1 n _ n c _ (by rw[List.length_drop,List.length_take,hal];omega) (fun j u hu=> ?_)⟩
     rw[addr_add,Nat.mul_one]
     show w.cell? _=_
     rw[cell_at q2]
     rw[List.getElem?_drop,List.getElem?_take]at hu
     split at hu
     ·simpa using hu
     ·cases hu
  obtain ⟨olds,hfo,hfirst⟩:=holds
  have hfr:=hfo.append hfs
  rw[←hzl]at hfr
  have hfit:=growslice_fits (need:=n+m) (old:=c) (bytes:=e.bytes) (by omega) hbound
  have hrun:=run_append_grow_src (P:=P) w t tx ty el i0 e.zero ht hi hi3 A n c olds (by rw[hi1'];exact hfirst) x m news (by rw[hi1'];exact hs1) (by omega) (by unfold maxLen at hmax;omega) (by rw[hi2];exact hfit)
  generalize hcap:grownCap w (n+m) c el=cap at hrun
  have hcge:n+m≤cap:=by rw[←hcap];exact grownCap_ge _ _ _ _
  have hcle:cap≤maxLen:=by rw[←hcap];exact grownCap_le_maxLen _ _ _ _ hmax
  have hzc:(Builtin.zeroCells e.zero.cells (cap-(n+m))).size=cap-(n+m):=by simp[Builtin.zeroCells,hzs,he1]
  generalize hzr:Builtin.zeroCells e.zero.cells (cap-(n+m))=zr at hrun hzc
  have hz1':∀u,u∈zr.toList→u.oneCell'=true:=fun u hu=>by
   rw[←hzr]at hu
   simp only[Builtin.zeroCells,Array.toList_map,List.mem_map]at hu
   obtain ⟨q,hq,rfl⟩:=hu
   have hlt:q % e.zero.cells.size<e.zero.cells.size:=Nat.mod_lt _ (by omega)
   simp only[allOne,List.all_eq_true]at hz1
   have:e.zero.cells[q % e.zero.cells.size]! =e.zero.cells[q % e.zero.cells.size]'hlt:=by simp[hlt]
   rw[this]
   exact hz1 _ (by simp)
  generalize harr:(olds++news).toArray++zr=arr' at hrun
  have hon:(olds++news).length=n+m:=by rw[hfr.len,rowL,List.length_map,hlen,Nat.mul_one]
  have hsz:arr'.size=cap:=by
   rw[←harr,Array.size_append,hzc]
   simp only[List.size_toArray,hon]
   omega
  have hw':(w.drew.alloc (.cells arr' el)).heap[w.heap.size]? =some (.cells arr' el (0,0)):=heap_alloc_new w.drew _
  have hk:Keep F w F (w.drew.alloc (.cells arr' el)):=⟨fun _ _ h=>h,fun b' o' hb'=>World.cell?_alloc_lt w.drew (.cells arr' el) ⟨b',o',none⟩ (hr.old_lt hb'),fun b' o' hb'=>szAt_of (Below.heap_alloc w.drew _ b' (hr.old_lt hb'))⟩
  have hnF:∀o,¬F w.heap.size o:=fun o ho=>by have:=hr.old_lt ho;omega
  have hbr:BR (addNu ν nx w.heap.size cap) F (w.drew.alloc (.cells arr' el)) (some (w.heap.size,cap)) (.row el 1 df cs zs 0):=
   (hfr.keep hk).BR hw' hcle (by rw[hsz,Nat.mul_one]) (by omega) (by
    rw[←harr,hlen,Array.toList_append,Nat.mul_one]
    rw[List.take_append_of_le_length (by simp only[hon];exact Nat.le_refl _),List.take_of_length_le (by simp only[hon];exact Nat.le_refl _)]) (fun u hu=>by
     rw[←harr,Array.toList_append]at hu
     rcases List.mem_append.1 hu with h|h
     ·exact hfr.one u (by simpa using h)
     ·exact hz1' u h) (fun o=>⟨fun ho=>(hnF o ho).elim,fun ho=>by omega⟩) (Nat.zero_le _)
  obtain ⟨h1,h2⟩:=hr.moved hν hHn (ob:=some b) (g:=w.heap.size) (k':=cap) (w':=w.drew.alloc (.cells arr' el)) (F':=F) (.inl rfl) (fun r' hr' _=>Below.heap_alloc w.drew _ r' hr') (by simp) rfl rfl rfl hk
   (fun b o h=> .inl h) (fun o ho=>(hnF o ho).elim) hbr
  refine ⟨_,_,addNu ν nx w.heap.size cap,F,[],hrun,?_,h1,More.add hν,fun j hj=> ?_,h2⟩
  ·exact .sl _ _ _ _ _ _ (fun _=>⟨w.heap.size,cap,addNu_same _ _ _ _,by simp,by simpa using hcge,by simp⟩) (fun _ _=> .inl ⟨w.heap.size,cap,addNu_same _ _ _ _,rfl,rfl⟩) hcge (fun h0 _=>absurd h0 (by omega))
  ·exact Classical.byContradiction fun hne=>hj (addNu_other ν hne)
section
variable {P:Program} {T:Tab} [Laid] {nt p:Nat}
theorem gwo_appQ (env:Env P T) (b b2:Nat) {i len d:Nat} {α:Type} {df:α} {cs:α→List D} {xs:List α} (z:α) {ops:Array Oper} {k:Nat} {o:Oper} {tm:List (Nat×G)} {hp:List (Nat×Option Blk)} {n:Nat} {Q:Exit→St→Prop} {x y:Operand} {t tx el el':TypeId} {te xe ee:TyE} {ty2:Nat} {df2:α}
 (hin:i+len=xs.length) (hbound:(len+1)*ee.bytes≤140737488355328) (hz:(cs z).length=1)
 (hq:∀pre:List α,GWO P nt p ops (k+1) ⟨(d,.sl n 1 pre.length (len+1))::tm,(n,some (.row el 1 df cs (pre++(xs.drop i++ [z])) 0))::(b,none)::hp,n+1⟩ Q)
 (hok:ops[k]? =some o:=by rfl) (hog:o.guard=none:=by rfl) (hd:o.dst=some d:=by rfl) (ho:o.op= .call {callee:= .builtin .append,args:= #[x,y],argTypes:= #[t,tx]} :=by rfl)
 (h1:tyAt T t=some te:=by rfl) (h2:tyAt T tx=some xe:=by rfl) (hd1:te.desc= .slice el:=by rfl) (hd2:xe.desc= .slice el':=by rfl) (h3:tyAt T el=some ee:=by rfl) (he1:Nat.beq ee.size 1=true:=by rfl) (hb1:Nat.ble 1 ee.bytes=true:=by rfl) (hz1:allOne ee.zero=true:=by rfl) (hzs:Nat.beq ee.zero.cells.size ee.size=true:=by rfl)
 (hx:St.ev ⟨tm,hp,n⟩ x= .sl b 1 i len:=by rfl) (hy:St.ev ⟨tm,hp,n⟩ y= .sl b2 1 0 1:=by rfl) (hb:look hp noHp b=some (.row el 1 df cs xs 0):=by rfl) (hb2:look hp noHp b2=some (.row ty2 1 df2 cs [z] 0):=by rfl)
 (hdn:Nat.blt d nt=true:=by rfl):GWO P nt p ops k ⟨tm,hp,n⟩ Q:=by
 intro ro ν0 F0 w0 H0 l0 ν F a w hr hl he hpn
 have kt:=env.ty _ _ h1
 have kx:=env.ty _ _ h2
 have ke:=env.ty _ _ h3
 have he1:=Nat.eq_of_beq_eq_true he1
 have hb1:=Nat.le_of_ble_eq_true hb1
 have hzs:=Nat.eq_of_beq_eq_true hzs
 have hdn:d<nt:=by simpa using hdn
 have hvx:=ev_sound hr.rel.glob hr.vals x
 have hvy:=ev_sound hr.rel.glob hr.vals y
 rw[hx]at hvx
 rw[hy]at hvy
 have hb2':St.H ⟨tm,hp,n⟩ b2=some (.row ty2 1 df2 cs [z] 0):=hb2
 have hsl:srcL (.sl b2 1 0 1) (St.H ⟨tm,hp,n⟩)=some (1=1∧0=0∧1= [z].length,rowL cs [z],1,[b2]):=by
  unfold srcL
  show (match St.H ⟨tm,hp,n⟩ b2 with|some (.row ty es' df cs xs fz)=>some (1=es'∧0=0∧1=xs.length,rowL cs xs,xs.length,[b2])|_=>none)=_
  rw[hb2']
  rfl
 obtain ⟨A,c,news,hye,hfs,hrd⟩:=srcL_sound (g:= .sl b2 1 0 1) (H:=St.H ⟨tm,hp,n⟩) (pr:=1=1∧0=0∧1= [z].length) (L:=rowL cs [z]) (m:=1) (fp:=[b2]) hsl ⟨rfl,rfl,rfl⟩ hr.rel hvy 1 (by omega) (fun j e' he'=>by
  match j with
  |0=>cases he';exact hz
  |j+1=>simp[rowL]at he')
 have hsrc:Src P ee.size tx (a.eval y) 1 news w:=by
  rw[hye,he1]
  obtain ⟨ad,h,_,hc⟩:=hrd.2 (by decide)
  subst h
  exact Src.ofSlice w (by rw[kx.1,hd2]) ad 1 c news hrd.1 hc hfs.one
 obtain ⟨v',w',ν',F',pre,r1,r2,r3,r4,r5,r6⟩:=run_append_off (ty:=o.type) hr.rel (by rw[kt.1,hd1]) ke he1 hb1 hz1 hzs (b:=b) (df:=df) (cs:=cs) (xs:=xs) hb hin hvx hsrc (by decide) hfs hbound (zs:=xs.drop i++ [z]) (rowL_app _ _ _) (by rw[List.length_append,List.length_drop];simp;omega) (nx:=n) (hr.free n (Nat.le_refl _)) (hr.fresh n (Nat.le_refl _))
 have hexec:(execOp a.eval o).run P w= .ok (.value v') w':=exec_builtin ho a w w' v' Builtin.append_ (fun _ _=>rfl) (by simpa using r1)
 have hk:k<ops.size:=(Array.getElem?_eq_some_iff.1 hok).1
 have e:ops.size-k=(ops.size-(k+1))+1:=by omega
 have hnew:∀j,j<n→ν' j=ν j:=fun j hj=>Classical.byContradiction fun hne=>by have:=r5 j hne;omega
 have hnew2:∀j,n+1≤j→ν' j=ν j:=fun j hj=>Classical.byContradiction fun hne=>by have:=r5 j hne;omega
 rw[e,List.range'_succ,wpOpsIn,hok]
 simp only[]
 rw[if_pos (by unfold Region.wanted;rw[hog])]
 refine ⟨fun _ _=>trivial,?_⟩
 rw[Oper.semAt_eq _ _ _ (fun c h=>by rw[ho]at h;cases h),hexec]
 refine hq pre ro ν0 F0 w0 H0 l0 ν' F' (a.put o.dst v') w' ⟨Nat.le_succ_of_le hr.pin,fun t'=> ?_,r3,?_,fun j hj=> ?_,by rw[hd];simp[Act.put];exact hr.size,fun j hj=> ?_⟩ (hl.evo hr.rel r6) (he.trans r6) (hpn.trans (Pin.of w.heap.size (by rw[hd];rfl) fun j hj=>hnew j (by have:p≤n:=hr.pin;omega)) he.size)
 ·rw[hd]
  show VR ν' F' w' (bif Nat.beq t' d then _ else getG tm t') _
  have hlt:d<a.tmps.size:=by rw[hr.size];exact hdn
  cases e':Nat.beq t' d with
  |true=>rw[Nat.eq_of_beq_eq_true e'];simp[Act.put,hlt];exact r2
  |false=>
   have hne:d≠t':=fun h=>by subst h;rw[Nat.beq_refl]at e';cases e'
   have:VR ν' F' w' (getG tm t') (a.tmps.getD t' undef):=(hr.vals t').keep r6.keep r4
   simpa [Act.put,Array.getElem?_setIfInBounds_ne hne]using this
 ·rw[hd];exact hr.defers.evo hr.rel r6
 ·have hj':n+1≤j:=hj
  rw[hnew2 j hj'];exact hr.free j (by show n≤j;omega)
 ·have hj':n+1≤j:=hj
  have hbn:b<n:=by
   rcases Nat.lt_or_ge b n with h|h
   ·exact h
   ·have:=hr.fresh b h
    rw[show St.H ⟨tm,hp,n⟩ b=look hp noHp b from rfl,hb]at this
    cases this
  show look ((n,_)::(b,none)::hp) noHp j=none
  rw[look_cons_other (by omega),look_cons_other (by omega)]
  exact hr.fresh j (by show n≤j;omega)
end
end Go.Gh
namespace Go.Gh
open Go Go.RowKit Go.MapKept
set_option linter.unusedVariables false
section
variable {P:Program} {T:Tab} {o:Oper} {ρ:Operand→G} {H:Hp}
theorem find0 {kt:TypeId} {d:TypeDesc} (hk:P.underlying kt=some d) (k:Value) (w:World):(Instr.findKey kt k []).run P w= .ok none w:=by
 simp[Instr.findKey,run_underlying hk,Instr.findNow]
theorem lop_lookup0 [Laid] {t:TypeId} {x y:Operand} (ho:o.op= .lookup t x y false) {kt et:TypeId} (hu:P.underlying t=some (.map kt et)) {d:TypeDesc} (hk:P.underlying kt=some d) {z:Value} (hz:∀w,(zeroValue et).run P w= .ok z w)
 {b:Nat} {gs:List G} {us:List Value} (hx:ρ x= .mp b) (hy:ρ y= .agg gs) (hc:cellV gs=some us) (hH:H b=some (.mp [])) (hck:∀e w,(Instr.checkKey e 10000 kt (.agg us.toArray)).run P w= .ok () w)
 (h1:z.oneCell'=true):LOp P o ρ H {g:= .d (.sc z),fp:=[b]} :=by
 refine lop_pure fun H' hf ν F w a hvv hr=> ?_
 have hH':=(hf b (by simp)).trans hH
 obtain ⟨r,q,es,cl,e1,e2,e3,e4,e5⟩:=hr.blk b _ hH'
 have vx:=hvv x (by simp[ho,Op.operands])
 have vy:=hvv y (by simp[ho,Op.operands])
 rw[hx]at vx
 rw[hy]at vy
 obtain ⟨r',k',f1,f2⟩:=vx.mp_inv
 rw[e1]at f1;injection f1 with f1;injection f1 with f1 _;subst f1
 have vy:=agg_inv vy hc
 have he:es.toList= []:=List.map_eq_nil_iff.1 e3
 have hrun:(Instr.lookup t (a.eval x) (a.eval y) false).run P w= .ok z w:=by
  rw[f2,vy]
  simp only[Instr.lookup,Sem.run_bind,run_underlying hu,Result.andThen_ok,MapKept.run_getObj_map e2,Sem.run_pure,hck,he,find0 hk]
  simp[hz]
 exact ⟨z,by simp only[execOp,ho,Sem.run_bind,hrun,Result.andThen_ok,Sem.run_pure],.d (.sc _ h1)⟩
theorem lop_mapAdd0 [Laid] {t:TypeId} {x y z:Operand} (ho:o.op= .mapUpdate t x y z) {kt et:TypeId} (hu:P.underlying t=some (.map kt et)) {d:TypeDesc} (hk:P.underlying kt=some d)
 {b:Nat} {gs:List G} {us:List Value} {v:Value} (hx:ρ x= .mp b) (hy:ρ y= .agg gs) (hz:ρ z= .d (.sc v)) (hc:cellV gs=some us) (hH:H b=some (.mp [])) (hck:∀e w,(Instr.checkKey e 10000 kt (.agg us.toArray)).run P w= .ok () w):LOp P o ρ H {g:= .junk,upd:=[(b,some (.mp [(.agg us.toArray,v)]))],fp:=[b]} :=by
 intro H' hf hnn
 refine gop_skip fun ν F w a hv hr=> ?_
 have hH':=(hf b (by simp)).trans hH
 obtain ⟨r,q,es,cl,e1,e2,e3,e4,e5⟩:=hr.blk b _ hH'
 have vx:=hv x (by simp[ho,Op.operands])
 have vy:=hv y (by simp[ho,Op.operands])
 have vz:=hv z (by simp[ho,Op.operands])
 rw[hx]at vx
 rw[hy]at vy
 rw[hz]at vz
 obtain ⟨r',k',f1,f2⟩:=vx.mp_inv
 rw[e1]at f1;injection f1 with f1;injection f1 with f1 _;subst f1
 have vy:=agg_inv vy hc
 have hv1:v.oneCell'=true:=by cases vz with|d h=>cases h;assumption
 have vz:=vz.sc_inv
 have he:es.toList= []:=List.map_eq_nil_iff.1 e3
 have hs:=heap_set (o':=Obj.map (es.push {key:= .agg us.toArray,val:=v,born:=cl}) (cl+1)) e2
 have hb2:Born (es.push {key:= .agg us.toArray,val:=v,born:=cl}) (cl+1):=by
  refine ⟨?_,fun x hx=> ?_⟩
  ·rw[Array.toList_push,he];simp
  ·rw[Array.toList_push,he]at hx
   simp at hx;rw[hx];show cl<cl+1;omega
 obtain ⟨g1,g2⟩:=hr.put (b:= .mp [(.agg us.toArray,v)]) hH' e1 (fun r' hne=>hs.2 r' hne) (w':= {w with heap:=w.heap.setIfInBounds r (.map (es.push {key:= .agg us.toArray,val:=v,born:=cl}) (cl+1))}) (by simp) (fun o ho=>absurd ho (e5 o)) rfl rfl rfl ⟨r,q,_,_,rfl,hs.1,by rw[Array.toList_push,he];rfl,⟨fun x hx=>by rw[List.mem_singleton.1 hx];exact hv1,hb2⟩,e5⟩ (fun o ho=>absurd ho (e5 o))
 refine ⟨_,?_,g1,g2⟩
 simp only[execOp,ho,Instr.mapUpdate,f2,vy,vz,Sem.run_bind,run_underlying hu,Result.andThen_ok,MapKept.run_getObj_map e2,Sem.run_pure,hck,he,find0 hk,MapKept.run_setObj_map _ e2]
end
section
variable {P:Program} {T:Tab} {nt p:Nat} {R:Exit→St→Prop} {c c':Code} {K K':List Kont} {σ:St}
theorem gr_pieces [Laid] {wr:Bool} (hT:TabOK P T) {ops:Array Oper} {Q:St→List Foot→Prop} {σ':St} {feet':List Foot} {hs':List (Hint P)} {back:List Oper} :∀(front:List Oper) (tm:List (Nat×G)) (h0:List (Nat×Option Blk)) (n:Nat) (feet:List Foot) (hs:List (Hint P)) (pr:List Prop),
 runG P wr T nt ops front tm h0 n feet hs=some (pr,σ',feet',hs')→AllP pr→GRun P ops nt Q back σ' feet'→GRun P ops nt Q (front++back) ⟨tm,h0,n⟩ feet:=by
 intro front
 induction front with
 |nil=>intro tm h0 n feet hs pr h _ hq;simp only[runG,Option.some.injEq,Prod.mk.injEq]at h;obtain ⟨_,rfl,rfl,_⟩:=h;exact hq
 |cons o rest ih=>
  intro tm h0 n feet hs pr h hp hq
  simp only[runG]at h
  split at h
  ·cases h
  ·rename_i pr1 c g upd fp new val hs1 hst
   have hok:=stepG_sound hT hst
   split at h
   ·rename_i d hd
    split at h
    ·cases h
    ·rename_i pr2 r hr
     cases h
     obtain ⟨q1,q2⟩:=catP_spec hp
     refine .cons _ _ _ _ _ (hok q1) ?_
     have e:(St.app ⟨tm,h0,n⟩ o (Res1.step ⟨pr1,c,g,upd,fp,new,val,hs1⟩ ⟨tm,h0,n⟩ o))=⟨(d,val)::tm,appH upd h0,advN new n⟩:=by
      simp only[St.app,Res1.step,hd,appH_eq,advN_eq]
     rw[e]
     exact ih _ _ _ _ _ _ hr q2 hq
   ·rename_i hd
    split at h
    ·cases h
    ·rename_i pr2 r hr
     cases h
     obtain ⟨q1,q2⟩:=catP_spec hp
     refine .cons _ _ _ _ _ (hok q1) ?_
     have e:(St.app ⟨tm,h0,n⟩ o (Res1.step ⟨pr1,c,g,upd,fp,new,val,hs1⟩ ⟨tm,h0,n⟩ o))=⟨tm,appH upd h0,advN new n⟩:=by
      simp only[St.app,Res1.step,hd,appH_eq,advN_eq]
     rw[e]
     exact ih _ _ _ _ _ _ hr q2 hq
def EndR [Laid] (P:Program) (nt p:Nat) (R:Exit→St→Prop) (K:List Kont) (σ:St):Prop:=∃(kp:List Nat) (c':Code) (K':List Kont) (tm':List (Nat×G)) (h2:List (Nat×Option Blk)),keepT σ.tmps kp=some tm'∧nfH [] σ.hp=some h2∧nrm 1000 .skip K=some (c',K')∧GK P nt p R c' K' ⟨tm',h2,σ.next⟩
theorem gk_draw [Laid] (env:Env P T) {id:Nat} {ops:Array Oper} {l:List Oper} (h:GRun P ops nt (fun τ feet=>orderOk ops feet=true∧EndR P nt p R K τ) l σ []) (hl:ops.toList=l:=by rfl) (hg:guardsOk ops nt=true:=by kernel_rfl) (he:edgesOk ops=true:=by kernel_rfl):GK P nt p R (.region id ops true) K σ:=by
 subst hl
 have hw:GW P nt p (.region id ops true) σ (fun e τ=>e= .normal∧EndR P nt p R K τ):=gw_region_any (Q:=fun e τ=>e= .normal∧EndR P nt p R K τ) env.mix hg he (by
  have mono:∀(l:List Oper) (τ:St) (feet:List Foot),GRun P ops nt (fun τ feet=>orderOk ops feet=true∧EndR P nt p R K τ) l τ feet→GRun P ops nt (fun τ feet=>orderOk ops feet=true∧(Exit.normal= .normal∧EndR P nt p R K τ)) l τ feet:=by
   intro l
   induction l with
   |nil=>intro τ feet h;cases h with|nil _ _ h=>exact .nil _ _ ⟨h.1,rfl,h.2⟩
   |cons o l ih=>intro τ feet h;cases h with|cons _ _ _ _ s hs h=>exact .cons _ _ _ _ s hs (ih _ _ h)
  exact mono _ _ _ h)
 intro ro ν F a w hr hl
 refine wpIn_mono (hw ro ν F a w hr hl) fun e a' w' ⟨τ,ν',F',⟨x1,kp,c',K',tm',h2,k1,k2,k3,k4⟩,r,e1,p1⟩=> ?_
 subst x1
 obtain ⟨tm1,h1,n1⟩:=τ
 have e:St.H ⟨tm',h2,n1⟩=St.H ⟨tm1,h1,n1⟩:=nfH_eq k2
 exact ⟨⟨tm',h2,n1⟩,ν',F',(nrm_sound k3 k4:GK P nt p R .skip K _),⟨r.pin,fun t=>keepT_get (r.vals t) kp tm' k1,e▸r.rel,r.defers,r.free,r.size,e▸r.fresh⟩,e▸e1,p1⟩
theorem gr_chunk [Laid] (env:Env P T) (wr:Bool) (m:Nat) (hs:List (Hint P)) {ops:Array Oper} {Q:St→List Foot→Prop} {rest front back:List Oper} {tm tm1:List (Nat×G)} {h0 h1:List (Nat×Option Blk)} {n n1:Nat} {feet feet1:List Foot} {pr pr':List Prop} {hs':List (Hint P)}
 (hq:GRun P ops nt Q back ⟨tm1,h1,n1⟩ feet1) (hf:rest.take m=front:=by rfl) (hb:rest.drop m=back:=by rfl) (h:runG P wr T nt ops front tm h0 n feet hs=some (pr,⟨tm1,h1,n1⟩,feet1,hs'):=by rfl) (hn:nfP pr=some pr':=by rfl)
 (hp:AllP pr':=by first|trivial|(simp only[AllP,bb,toN];repeat' first|exact trivial|exact EntL.refl _|exact BEntL.refl _|exact rfl|omega|apply And.intro|intro _)):GRun P ops nt Q rest ⟨tm,h0,n⟩ feet:=by
 subst hf hb
 rw[←List.take_append_drop m rest]
 exact gr_pieces env.ty _ _ _ _ _ _ _ h (nfP_eq hn▸hp) hq
theorem gr_lop [Laid] {ops:Array Oper} {Q:St→List Foot→Prop} {o:Oper} {rest:List Oper} {tm:List (Nat×G)} {hp:List (Nat×Option Blk)} {n:Nat} {feet:List Foot} (E:Eff) (hL:LOp P o (opA ⟨tm,hp,n⟩) (St.H ⟨tm,hp,n⟩) E)
 (hq:GRun P ops nt Q rest ⟨(match o.dst with|some d=>(d,E.g)::tm|none=>tm),E.upd++hp,n⟩ (feet++ [⟨E.fp,E.upd.map (·.1)⟩])) (hw:wantOf ops ⟨tm,hp,n⟩ o=some true:=by rfl) (hnew:E.new= []:=by rfl)
 (hupd:(touched E).all (fun i=>E.fp.contains i)=true:=by rfl) (hfp:E.fp.all (fun i=>Nat.blt i n)=true:=by rfl) (hdn:(match o.dst with|some d=>Nat.blt d nt|none=>true)=true:=by rfl) {ps:List Prop} (hst:strO true ⟨tm,hp,n⟩ o.op.operands.toList=some ps:=by rfl) (hps:AllP ps:=by simp only[AllP];repeat' first|trivial|decide|apply And.intro|intro _):GRun P ops nt Q (o::rest) ⟨tm,hp,n⟩ feet:=by
 have hs:SOK P ops nt ⟨tm,hp,n⟩ o ⟨true,opA ⟨tm,hp,n⟩,E,E.g⟩:=by
  refine ⟨hw,fun x hx ν F w v hc h=>strip_sound h hc (strO_at _ _ hst hps x hx),fun _=>hL,.inl ⟨rfl,rfl⟩,.inl rfl,fun j hj=> ?_,fun j hj=> ?_,fun j hj=> ?_,fun j hj=> ?_,fun d hd'=> ?_⟩
  ·rw[List.all_eq_true]at hupd
   exact .inl (by simpa using hupd j hj)
  ·rw[hnew]at hj;cases hj
  ·rw[List.all_eq_true]at hfp
   simpa using hfp j hj
  ·rw[hnew]at hj;cases hj
  ·rw[hd']at hdn;simpa using hdn
 have happ:St.app ⟨tm,hp,n⟩ o ⟨true,opA ⟨tm,hp,n⟩,E,E.g⟩=⟨(match o.dst with|some d=>(d,E.g)::tm|none=>tm),E.upd++hp,n⟩:=by
  unfold St.app
  rw[hnew];rfl
 refine .cons _ _ _ _ _ hs ?_
 rw[happ]
 exact hq
theorem gr_end [Laid] (kp:List Nat) {ops:Array Oper} {tm tm':List (Nat×G)} {h1 h2:List (Nat×Option Blk)} {n:Nat} {feet:List Foot} (hq:GK P nt p R c' K' ⟨tm',h2,n⟩) (ho:orderOk ops feet=true:=by kernel_rfl) (hk:keepT tm kp=some tm':=by rfl) (hh:nfH [] h1=some h2:=by rfl) (hn:nrm 1000 .skip K=some (c',K'):=by rfl):
 GRun P ops nt (fun τ feet=>orderOk ops feet=true∧EndR P nt p R K τ) [] ⟨tm,h1,n⟩ feet:= .nil _ _ ⟨ho,kp,c',K',tm',h2,hk,hh,hn,hq⟩
end
end Go.Gh
namespace Go.Gh
open Go Go.RowKit
set_option linter.unusedVariables false
abbrev mkD (D:Nat):Deferred:= {target:= .collected D,args:= #[]}
theorem leave_marksB {P:Program} {fn:Func} {tmps:Array Value} {R:Ending→World→Prop} {ro:Option Nat} {base:List Deferred} :∀(Ds:List Nat) (w:World),Ds.Nodup→(∀D,D∈Ds→w.heap[D]? =some (.deferred (some [])))→
 (∀w',Shut Ds w w'→LeavesInM (rnd ro) 0 P fn tmps R base .returning w')→LeavesInM (rnd ro) 0 P fn tmps R (Ds.map mkD++base) .returning w:=by
 intro Ds
 induction Ds with
 |nil=>intro w _ _ h;exact h w ⟨rfl,rfl,rfl,rfl,fun _ _=>rfl⟩
 |cons D Ds ih=>
  intro w hn hh h
  obtain ⟨h1,h2⟩:=List.nodup_cons.1 hn
  have hlt:D<w.heap.size:=(Array.getElem?_eq_some_iff.1 (hh D List.mem_cons_self)).1
  have hother:∀r,r≠D→(w.putObj D (.deferred none)).heap[r]? =w.heap[r]? :=fun r hr=>by
   simp[World.putObj,Ne.symm hr]
  refine ⟨by simp,.inl ⟨D,w.putObj D (.deferred none),rfl,run_takeDeferred (hh D List.mem_cons_self),ih _ h2 (fun E hE=> ?_) fun w' hw'=>h w' ?_⟩⟩
  ·rw[hother E fun e=>h1 (e▸hE)];exact hh E (List.mem_cons_of_mem _ hE)
  ·refine ⟨hw'.os,hw'.tape,hw'.output,hw'.size.trans (by simp[World.putObj]),fun r hr=> ?_⟩
   simp only[List.mem_cons,not_or]at hr
   rw[hw'.other r hr.2,hother r hr.1]
def Idle (P:Program) (d:Deferred):Prop:=∃(fv:Fn) (cap:Array Value) (f:FuncId) (args:Array Value),d.target= .fn fv cap∧(∀w,(invoke d.target d.args).run P w= .ok (.enter f args) w)∧
 ∀w,CallsDIn (rnd none) 0 P f args .returning w fun e u' w'=>(∃v,e= .returned v)∧u'= .returning∧w'=w
def EndDf [Laid] (P:Program) (fn:Func) (g:G) (F:Fz) (w:World) (e:Exit) (a0:Act) (w0:World):Prop:=
 Ends e∧∃(σ':St) (ν':Nu) (F':Fz) (D1 D2:List Nat) (d:Deferred),RetOK P fn σ' g∧RS σ' ν' F' a0 w0 fn.ntmps 0∧Evo (fun _=>none) F w noHp ν' F' w0 σ'.H∧a0.defers=D2.map mkD++d::D1.map mkD∧(∀D,D∈D2∨D∈D1→w.heap.size≤D)∧Idle P d
theorem gc_of_df [Laid] {P:Program} {f:FuncId} {fn:Func} {c:Code} {args:List G} {g:G} (hf:P.funcs[f]? =some fn) (hb:fn.body=some c) (hname:(fn.name== "runtime.NumGoroutine")=false) (hargs:G.ltL 0 args=true) (hlen:Nat.ble args.length fn.ntmps=true)
 (hg:g.lt 0=true) (h:∀(F:Fz) (a:Act) (w:World),RS ⟨argT 0 args,[],0⟩ (fun _=>none) F a w fn.ntmps 0→a.defers= []→c.wpIn (rnd none) 0 P (EndDf P fn g F w) a w):GC P f args g:=by
 refine ⟨⟨fn,c,hf,hb,hname⟩,fun ν F w H vs hr hv=> ?_⟩
 have hle:=Nat.le_of_ble_eq_true hlen
 simp only[ltL_all,List.all_eq_true]at hargs
 have hrs:RS ⟨argT 0 args,[],0⟩ (fun _=>none) F {tmps:=vs++Array.replicate (fn.ntmps-vs.size) undef,defers:=[]} w fn.ntmps 0:=by
  refine ⟨Nat.le_refl _,fun t=> ?_,⟨fun i j r k k' hi=>(by cases hi),fun i b hb=>(by cases hb),hr.old,hr.glob⟩,.nil _,fun _ _=>rfl,by simp[hv.1];omega,fun i _=>rfl⟩
  show VR _ F w (getG (argT 0 args) t) _
  rw[argT_get,if_pos (Nat.zero_le _),Nat.sub_zero]
  cases ht:args[t]? with
  |none=>exact .junk _
  |some g'=>
   have hlt:t<vs.size:=by rw[hv.1];exact (List.getElem?_eq_some_iff.1 ht).1
   have e1:(vs++Array.replicate (fn.ntmps-vs.size) undef).getD t undef=vs[t]:=by
    simp[Array.getD,hlt]
    intro h;omega
   rw[e1]
   exact (hv.2 t g' _ ht (by simp[hlt])).closed (hargs g' (List.mem_of_getElem? ht))
 refine (callsIn_wide (n:=0)).1 (callsIn_of_wp_marks hf hb trivial ?_)
 refine wpIn_mono (h F _ w hrs rfl) fun e a0 w0 ⟨he,σ',ν',F',D1,D2,d,hret,hr0,hev0,hdf,hge,hidle⟩=> ?_
 suffices hh:LeavesInM (rnd none) 0 P fn a0.tmps (fun e w'=>∃(F':Fz) (v:Value),e= .returned v∧VR ν F' w' g v∧Rel ν F' w' H∧Evo ν F w H ν F' w' H) a0.defers .returning w0 by
  rcases he with rfl|rfl<;>exact hh
 obtain ⟨fv,cap,df,dargs,i1,i2,i3⟩:=hidle
 obtain ⟨Do,k1,k2,k3⟩:=hr0.defers
 have hnm:isMark d=false:=by unfold isMark;rw[i1]
 have hDo:Do=D2++D1:=by
  rw[hdf,List.filter_append,List.filter_cons_of_neg (by rw[hnm];decide),filter_marks,filter_marks,←List.map_append]at k2
  have hinj:Function.Injective (fun D:Nat=>({target:= .collected D,args:= #[]} :Deferred)):=fun x y hxy=>by injection hxy with a b;injection a
  exact (map_inj hinj _ _ k2).symm
 subst hDo
 obtain ⟨n2,n1,n12⟩:=List.nodup_append.1 k1
 rw[hdf]
 refine leave_marksB D2 w0 n2 (fun D hD=>k3 D (List.mem_append_left _ hD)) fun w1 s1=> ?_
 refine ⟨by simp,.inr ⟨fun hd=>(by cases hd),fv,cap,df,dargs,i1,i2 w1,fun _ _=>trivial,?_⟩⟩
 refine ⟨(i3 w1).1,fun c₀ cs hc hroom=> ?_⟩
 obtain ⟨e2,u2,w2,fr2,⟨⟨v2,q1⟩,q2,q3⟩,rest⟩:=(i3 w1).2 c₀ cs hc hroom
 subst q1 q2 q3
 refine ⟨_,_,_,fr2,?_,rest⟩
 show LeavesInM (rnd none) 0 P fn a0.tmps _ (D1.map mkD) (settle .returning) w2
 show LeavesInM (rnd none) 0 P fn a0.tmps _ (D1.map mkD) .returning w2
 refine leave_marks D1 w2 n1 (fun D hD=> ?_) fun w3 s3=> ?_
 ·rw[s1.other D fun hx=>n12 D hx D hD rfl]
  exact k3 D (List.mem_append_right _ hD)
 have hs:Shut (D2++D1) w0 w3:=⟨s3.os.trans s1.os,s3.tape.trans s1.tape,s3.output.trans s1.output,s3.size.trans s1.size,fun r hr=>by
  simp only[List.mem_append,not_or]at hr
  rw[s3.other r hr.2,s1.other r hr.1]⟩
 obtain ⟨r1,r2,r3⟩:=shut_rel hr0.rel k3 hs
 have hr':RS σ' ν' F' {tmps:=a0.tmps,defers:=[]} w3 fn.ntmps 0:=⟨hr0.pin,fun t=>(hr0.vals t).keep r2 (More.refl _),r1,.nil _,hr0.free,hr0.size,hr0.fresh⟩
 have hev:Evo (fun _=>none) F w noHp ν' F' w3 σ'.H:=⟨hev0.keep.trans r2,hs.os.trans hev0.os,hs.tape.trans hev0.tape,hs.output.trans hev0.output,by rw[hs.size];exact hev0.size,fun r hlt hm=>by
  rw[hs.other r fun hD=>by have:=hge r ((List.mem_append.1 hD));omega]
  exact hev0.frame r hlt hm,hev0.mine,hev0.fz⟩
 obtain ⟨F'',v,x1,x2,x3,x4,x5⟩:=hret ν' F' _ w3 _ _ hr'
 have hmine:∀r,¬Mine (fun _=>none) noHp r:=fun r ⟨i,k,h,_⟩=>by cases h
 have hF:∀b o,F'' b o→F b o∨w.heap.size≤b:=fun b o ho=>by
  rcases x4 b o ho with h|h
  ·rcases hev.fz b o h with h|h|h
   ·exact .inl h
   ·exact absurd h (hmine b)
   ·exact .inr h
  ·rcases hev.mine b h with h|h
   ·exact absurd h (hmine b)
   ·exact .inr h
 have hk:=hev.keep.trans x3
 refine ⟨v,x1,F'',v,rfl,x2.closed hg,⟨hr.inj,fun i b hb=> ?_,x5,hr.glob.keep hk⟩,⟨hk,hev.os,hev.tape,hev.output,hev.size,fun r hrl _=>hev.frame r hrl (hmine r),fun r h=> .inl h,fun b o ho=>(hF b o ho).imp id .inr⟩⟩
 refine (hr.blk i b hb).keep hk (More.refl _) (fun r k e=> ?_) (fun r k e o=>⟨fun ho=> ?_,fun ho=>hk.sub _ _ ho⟩)
 ·exact hev.frame r (hr.mine_lt ⟨i,k,by rw[hb];rfl,e⟩) (hmine r)
 ·rcases hF r o ho with h|h
  ·exact h
  ·have:=hr.mine_lt ⟨i,k,by rw[hb];rfl,e⟩;omega
section
variable {P:Program} {nt p:Nat} {x y c':Code} {K':List Kont} {σ σ':St}
theorem wp_step [Laid] {ro:Option Nat} {ν:Nu} {F:Fz} {a:Act} {w:World} {QF:Exit→Act→World→Prop} (hr:RS σ ν F a w nt p) (hl:Lives ro w)
 (hx:GK P nt p (fun e τ=>e= .normal∧∀(ν':Nu) (F':Fz) (a':Act) (w':World),RS τ ν' F' a' w' nt p→Lives ro w'→Evo ν F w σ.H ν' F' w' τ.H→Pin p ν ν' a.defers a'.defers w.heap.size→y.wpIn (rnd ro) 0 P QF a' w') c' K' σ)
 (hn:nrm 1000 x []=some (c',K'):=by rfl):(Code.seq x y).wpIn (rnd ro) 0 P QF a w:=by
 have hg:=(nrm_sound hn hx:GK P nt p _ x [] σ).gw
 refine wpIn_seq (wpIn_mono (hg ro ν F a w hr hl) fun e a' w' ⟨τ,ν',F',hq,r,e1,p1⟩=> ?_)
 obtain ⟨rfl,hy⟩:=hq
 exact hy ν' F' a' w' r (hl.evo hr.rel e1) e1 p1
theorem wp_defer [Laid] {ν:Nu} {F:Fz} {a:Act} {w:World} {QF:Exit→Act→World→Prop} {id k d1:Nat} {o1 o2:Oper} {caps:Array Operand} {tys:Array TypeId} {tm:List (Nat×G)} {hp:List (Nat×Option Blk)} {n:Nat} (hr:RS ⟨tm,hp,n⟩ ν F a w nt p)
 (hy:∀(a':Act) (cv:Array Value),cv.size=caps.size→RS ⟨(d1,.junk)::tm,hp,n⟩ ν F a' w nt p→a'.defers= {target:= .fn (.func k) cv,args:= #[]} ::a.defers→y.wpIn (rnd none) 0 P QF a' w)
 (h1:o1.op= .makeFunc (.func k) #[] caps:=by rfl) (g1:o1.guard=none:=by rfl) (e1:o1.dst=some d1:=by rfl) (h2:o2.op= .defer {callee:= .value (.tmp d1),args:= #[],argTypes:=tys} :=by rfl) (g2:o2.guard=none:=by rfl) (e2:o2.dst=none:=by rfl) (hlt:Nat.blt d1 nt=true:=by rfl):
 (Code.seq (.region id #[o1,o2] false) y).wpIn (rnd none) 0 P QF a w:=by
 have hlt:d1<nt:=by simpa [Nat.blt_eq]using hlt
 refine wpIn_seq (wpIn_region ?_)
 show wpOpsIn (rnd none) 0 _ _ _ [0,1] a w
 have hmf:∀(fn:Fn) (first cap:Array Value) (w:World),(Instr.makeFunc fn first cap).run P w= .ok (.func fn first cap) w:=fun _ _ _ _=>rfl
 refine wp_one (o:=o1) (v:= .func (.func k) #[] (caps.map a.eval)) (w':=w) rfl g1 (fun c h=>by rw[h1]at h;cases h) (fun c h=>by rw[h1]at h;cases h) (by simp only[execOp,h1,Sem.run_bind,hmf,Result.andThen_ok,Sem.run_pure];simp) ?_
 have r1:=hr.put e1 hlt (v:= .func (.func k) #[] (caps.map a.eval)) (g:= .junk) (.junk _)
 have hev:(a.put o1.dst (.func (.func k) #[] (caps.map a.eval))).eval (.tmp d1)= .func (.func k) #[] (caps.map a.eval):=by
  rw[e1]
  have:d1<a.tmps.size:=by rw[hr.size];exact hlt
  simp[Act.eval,Act.put,this]
 have hdf:(a.put o1.dst (.func (.func k) #[] (caps.map a.eval))).defers=a.defers:=by rw[e1];rfl
 generalize a.put o1.dst (.func (.func k) #[] (caps.map a.eval))=a1 at r1 hev hdf
 rw[wpOpsIn]
 show if Region.wanted o2 _=true then _ else _
 rw[if_pos (by unfold Region.wanted;rw[g2])]
 refine ⟨fun _ _=>trivial,?_⟩
 have hrun:(Oper.semAt none a1.eval o2).run P w= .ok (.defer {target:= .fn (.func k) (caps.map a.eval),args:= #[]}) w:=by
  rw[Oper.semAt_none]
  simp only[execOp,h2,resolve]
  rw[hev]
  simp only[Sem.run_bind,show (Deferred.ofValue (.func (.func k) #[] (caps.map a.eval)) (Array.map a1.eval #[])).run P w= .ok {target:= .fn (.func k) (caps.map a.eval),args:= #[]++Array.map a1.eval #[]} w from rfl,Result.andThen_ok,Sem.run_pure]
  simp
 have hfin:({a1 with defers:= {target:= .fn (.func k) (caps.map a.eval),args:= #[]} ::a1.defers} :Act).put o2.dst undef= {a1 with defers:= {target:= .fn (.func k) (caps.map a.eval),args:= #[]} ::a1.defers} :=by rw[e2];rfl
 show Oper.uponIn _ _ _ o2 _ _ _ ((Oper.semAt none a1.eval o2).run P w)
 rw[hrun,Oper.uponIn_defer,hfin]
 show y.wpIn (rnd none) 0 P QF _ w
 refine hy _ (caps.map a.eval) (by simp) ?_ (by rw[←hdf])
 refine ⟨r1.pin,r1.vals,r1.rel,?_,r1.free,r1.size,r1.fresh⟩
 obtain ⟨Ds,k1,k2,k3⟩:=r1.defers
 exact ⟨Ds,k1,by rw[←k2];exact List.filter_cons_of_neg Bool.false_ne_true,k3⟩
theorem wp_rest [Laid] {fn:Func} {g:G} {F0 F:Fz} {w0 w:World} {ν:Nu} {a:Act} {D1:List Nat} {d:Deferred} {QF:Exit→Act→World→Prop} (hQ:QF=EndDf P fn g F0 w0) (hr:RS σ ν F a w fn.ntmps 0) (hev:Evo (fun _=>none) F0 w0 noHp ν F w σ.H) (hd:a.defers=d::D1.map mkD) (hge:∀D,D∈D1→w0.heap.size≤D) (hi:Idle P d)
 (h:GK P fn.ntmps 0 (fun e σ=>Ends e∧RetOK P fn σ g) c' K' σ) (hn:nrm 1000 y []=some (c',K'):=by rfl):y.wpIn (rnd none) 0 P QF a w:=by
 subst hQ
 refine wpIn_mono ((nrm_sound hn h:GK P fn.ntmps 0 _ y [] σ).gw none ν F a w hr (Lives.none w)) fun e a' w' ⟨τ,ν',F',⟨q1,q2⟩,r,e1,p1⟩=> ?_
 obtain ⟨Ds,k1,k2⟩:=p1.more
 refine ⟨q1,τ,ν',F',D1,Ds,d,q2,r,hev.trans e1,by rw[k1,hd],fun D hD=> ?_,hi⟩
 rcases hD with h|h
 ·exact Nat.le_trans hev.size (k2 D h)
 ·exact hge D h
end
end Go.Gh
