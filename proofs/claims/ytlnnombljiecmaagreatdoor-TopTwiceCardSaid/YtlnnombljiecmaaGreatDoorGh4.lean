/- A logic of calls without memory (4 of 3). -/
import Derived.Test.YtlnnombljiecmaaGreatDoorGh3
import Derived.Maps.RangeRun
import Derived.Sort.Row
import Derived.Sort.Grow
import Derived.Laws.CopyRow
import Derived.Test.YtlnnombljiecmaaGreatDoorGh2
import Derived.Shelf.Strings.Builder1
namespace Go.Gh
open Go Go.RowKit
set_option linter.unusedVariables false
section
variable {P:Program} {nt p:Nat} {R:Exit->St->Prop} {c c':Code} {K K':List Kont} {σ:St}
theorem ul [Laid] {α:Type} (I:α->Prop) (inv:α->St) {id:Nat} (h2:∀x,I x->GK P nt p R c' K' (inv x)) (h1:GK P nt p R (.loop c) (.block id:: .goal (To p I inv)::K) σ) (hn:nrm 1000 .skip K=some (c',K'):=by rfl):GK P nt p R (.loop c) (.block id::K) σ:=
 fun ro ν F a w hr hl=>wpIn_mono (h1.gw ro ν F a w hr hl) fun e a' w' ⟨σ',ν',F',q,r,e1,p1⟩=>by
  cases e with
  |normal=>
   obtain ⟨x,ρ,ps,h,hI,hp⟩:=q
   obtain ⟨ν2,r2,e2,p2⟩:=(zo h hp).rs r
   exact ⟨inv x,ν2,F',(zp hn (h2 x hI):GK P nt p R .skip K _),r2,e1.trans e2,p1.trans p2 e1.size⟩
  |exit j=>
   by_cases hj:j=id
   ·have q:To p I inv σ':=by
     have q':(if j=id then To p I inv σ' else _):=q
     rwa[if_pos hj]at q'
    obtain ⟨x,ρ,ps,h,hI,hp⟩:=q
    obtain ⟨ν2,r2,e2,p2⟩:=(zo h hp).rs r
    refine ⟨inv x,ν2,F',?_,r2,e1.trans e2,p1.trans p2 e1.size⟩
    show (if j=id then kQ P nt p R K .normal (inv x)else _)
    rw[if_pos hj]
    exact (zp hn (h2 x hI):GK P nt p R .skip K _)
   ·refine ⟨σ',ν',F',?_,r,e1,p1⟩
    have q':(if j=id then To p I inv σ' else kQ P nt p R K (.exit j) σ'):=q
    rw[if_neg hj]at q'
    show (if j=id then _ else kQ P nt p R K (.exit j) σ')
    rw[if_neg hj];exact q'
  |_=>exact ⟨σ',ν',F',q,r,e1,p1⟩
theorem ZEa [Laid] (t:Nat) (g':G) {tm:List (Nat×G)} {hp:List (Nat×Option Blk)} {n:Nat} (he:Ent (zg tm t) g') (h:GK P nt p R c K ⟨(t,g')::tm,hp,n⟩) (hw:vl c=true:=by rfl):GK P nt p R c K ⟨tm,hp,n⟩:=
 Wr hw fun ro ν F a w hr hl=>h.gw ro ν F a w ⟨hr.pin,fun t'=>by
  show VR ν F w (bif Nat.beq t' t then g' else zg tm t') _
  cases hb:Nat.beq t' t with
  |true=>rw[Nat.eq_of_beq_eq_true hb];exact he ν F w _ (hr.vals t)
  |false=>exact hr.vals t',hr.rel,hr.defers,hr.free,hr.size,hr.fresh⟩ hl
end
theorem zMs [Laid] {P:Program} {T:Tab} (hT:za P T) {nt p id s a b:Nat} {o1 o2:Oper} {t t' et:TypeId} {e:TyE} (d1:o1.dst=some a) (g1:o1.guard=none) (h1:o1.op= .move (.tmp s)) (d2:o2.dst=some b) (g2:o2.guard=none)
 (h2:o2.op= .binOp .eql t (.tmp a) (.const (.slice none 0 0)) t') (te:zM T t=some e) (hd:e.desc= .slice et) (la:a<nt) (lb:b<nt)
 {tm:List (Nat×G)} {hp:List (Nat×Option Blk)} {n:Nat} (hs:zg tm s= .d (.sc (.slice none 0 0))) {Q:Exit->St->Prop}
 (hq:Q .normal ⟨(b,.d (.sc (.bool true)))::tm.filter (fun x=>x.1 !=a),hp,n⟩):GW P nt p (.region id #[o1,o2] false) ⟨tm,hp,n⟩ Q:=by
 intro ro ν F w0 w hr hl
 have hv:VR ν F w (.d (.sc (.slice none 0 0))) (w0.tmps.getD s undef):=by rw[<-hs];exact hr.vals s
 have hA:=hv.sc_eq.1
 have hu:P.underlying t=some (.slice et):=by rw[<-hd];exact (hT _ _ te).1
 have r2:=Lib.run_eql_slice_nil (P:=P) w t et none 0 0 0 0 hu
 have hat:(w0.put o1.dst (.slice none 0 0)).eval (.tmp a)= .slice none 0 0:=by
  have hsz:=hr.size
  rw[d1]
  simp[Act.eval,Act.put,hsz,la]
 refine wpIn_region ?_
 show wpOpsIn (rnd ro) 0 P #[o1,o2] _ [0,1] w0 w
 simp only[wpOpsIn]
 have e0:(#[o1,o2]:Array Oper)[0]? =some o1:=rfl
 have e1:(#[o1,o2]:Array Oper)[1]? =some o2:=rfl
 simp only[e0,e1,Region.wanted,g1,g2,if_true]
 refine qS (WS (v:= .slice none 0 0) ?_ ?_)
 ·simp only[execOp,h1]
  rw[show w0.eval (.tmp s)=w0.tmps.getD s undef from rfl,hA]
  rfl
 ·refine qS (WS (v:= .bool true) ?_ ?_)
  ·simp only[execOp,h2]
   rw[hat]
   show ((do eqGuard .eql t (.tmp a) (.const (.slice none 0 0)) (.slice none 0 0) (.slice none 0 0);let v<-binOp .eql t (.slice none 0 0) (.slice none 0 0);pure (Next.value v):Sem Next)).run P w=_
   have r1:(eqGuard .eql t (.tmp a) (.const (.slice none 0 0)) (.slice none 0 0) (.slice none 0 0)).run P w= .ok () w:=rfl
   simp only[Sem.run_bind,r1,Result.andThen_ok,r2,Sem.run_pure,Option.isNone_none]
  ·refine ⟨⟨(b,.d (.sc (.bool true)))::tm.filter (fun x=>x.1 !=a),hp,n⟩,ν,F,hq,⟨hr.pin,fun x=> ?_,hr.rel,?_,hr.free,?_,hr.fresh⟩,Evo.refl _ _ _ _,Pin.of _ ?_ fun _ _=>rfl⟩
   ·rw[d1,d2]
    show VR ν F w (zg ((b,_)::_) x) _
    simp only[zg]
    cases hb:Nat.beq x b with
    |true=>
     obtain rfl:=Nat.eq_of_beq_eq_true hb
     simp[Act.put,hr.size,lb]
     exact .d (.sc _ rfl)
    |false=>
     have hxb:b≠x:=fun h=>by rw[h,Nat.beq_refl]at hb;cases hb
     simp only[cond_false]
     cases ha:Nat.beq x a with
     |true=>
      obtain rfl:=Nat.eq_of_beq_eq_true ha
      rw[Xg]
      exact .junk _
     |false=>
      have hxa:a≠x:=fun h=>by rw[h,Nat.beq_refl]at ha;cases ha
      rw[uw ha]
      have:VR ν F w (zg tm x) (w0.tmps.getD x undef):=hr.vals x
      simp[Act.put,Array.getElem?_setIfInBounds_ne hxa,Array.getElem?_setIfInBounds_ne hxb]
      simpa using this
   ·simpa [d1,d2,Act.put]using hr.defers
   ·simpa [d1,d2,Act.put]using hr.size
   ·simp[d1,d2,Act.put]
section
variable {P:Program} {nt p:Nat} {R:Exit->St->Prop} {c':Code} {K K':List Kont}
theorem zMv [Laid] {T:Tab} (env:Env P T) {id s a b:Nat} {o1 o2:Oper} {t t' et:TypeId} {e:TyE} {tm tm':List (Nat×G)} {hp:List (Nat×Option Blk)} {n:Nat}
 (hq:GK P nt p R c' K' ⟨(b,.d (.sc (.bool true)))::tm',hp,n⟩)
 (d1:o1.dst=some a:=by rfl) (g1:o1.guard=none:=by rfl) (h1:o1.op= .move (.tmp s):=by rfl) (d2:o2.dst=some b:=by rfl) (g2:o2.guard=none:=by rfl)
 (h2:o2.op= .binOp .eql t (.tmp a) (.const (.slice none 0 0)) t':=by rfl) (te:zM T t=some e:=by rfl) (hd:e.desc= .slice et:=by rfl) (la:a<nt:=by decide) (lb:b<nt:=by decide) (hs:zg tm s= .d (.sc (.slice none 0 0)):=by rfl) (hf:tm.filter (fun x=>x.1 !=a)=tm':=by rfl) (hn:nrm 1000 .skip K=some (c',K'):=by rfl):
 GK P nt p R (.region id #[o1,o2] false) K ⟨tm,hp,n⟩:=
 zMs env.ty d1 g1 h1 d2 g2 h2 te hd la lb hs (by rw[hf];exact (zp hn hq:GK P nt p R .skip K _))
end
end Go.Gh
namespace Go.Gh
open Go Go.RowKit
set_option linter.unusedVariables false
set_option linter.unusedSectionVars false
structure Quiet (M:Nat->Prop) (w w':World):Prop where
 os:w'.os=w.os
 tape:w'.tape=w.tape
 output:w'.output=w.output
 size:w.heap.size<=w'.heap.size
 frame:∀r,r<w.heap.size->¬M r->w'.heap[r]? =w.heap[r]?
structure KeepM (F:Fz) (M:Nat->Prop) (w w':World):Prop where
 keep:Keep F w F w'
 mine:∀r,M r->w'.heap[r]? =w.heap[r]?
 size:w.heap.size<=w'.heap.size
structure YC [Laid] (P:Program) (α:Type) where
 l:Nat
 J:Bool->List α->(Nat->Prop)->World->Prop
 gs:α->List G
 xs:List α
 F:Fz
 ab:∀b pre (M M':Nat->Prop) w w',J b pre M w->Quiet M w w'->(∀r,M' r->M r∨w.heap.size<=r/\r<w'.heap.size)->J b pre M' w'
 yl:∀pre x rest M w (args:Array Value),J true pre M w->pre++x::rest=xs->VRs (fun _=>none) F w (gs x) args→
  YieldAt Fence.wide 0 P l args w fun e w'=>∃b,e= .returned (.bool b)/\J b (pre++ [x]) M w'/\KeepM F M w w'
structure YI [Laid] {P:Program} {α:Type} (C:YC P α) (σ:St) (φ:Bool×List α) (M:Nat->Prop) (ν:Nu) (F:Fz) (a:Act) (w:World) (nt:Nat):Prop where
 rs:RS σ ν F a w nt 0
 mine:∀r,jf ν σ.H r->M r
 fz:∀b o,F b o->C.F b o∨M b
 sub:∀b o,C.F b o->F b o
 marks:∀D:Nat,({target:= .collected D,args:= #[]} :Deferred)∈a.defers->M D
 j:C.J φ.1 φ.2 M w
def ZBb [Laid] {P:Program} {α:Type} (C:YC P α) (nt:Nat) (Q:Exit->St->Bool×List α->Prop):Exit->Act->World->Prop:=
 fun e a w=>∃σ φ M ν F,Q e σ φ/\YI C σ φ M ν F a w nt
def GY [Laid] {P:Program} {α:Type} (C:YC P α) (nt:Nat) (c:Code) (σ:St) (φ:Bool×List α) (Q:Exit->St->Bool×List α->Prop):Prop:=
 ∀M ν F a w,YI C σ φ M ν F a w nt->c.wpIn (rnd none) 0 P (ZBb C nt Q) a w
section
variable [Laid] {P:Program} {α:Type} {C:YC P α} {nt:Nat} {σ:St} {φ:Bool×List α} {Q:Exit->St->Bool×List α->Prop}
theorem YI.step {σ σ':St} {M:Nat->Prop} {ν ν':Nu} {F F':Fz} {a a':Act} {w w':World} (h:YI C σ φ M ν F a w nt) (r:RS σ' ν' F' a' w' nt 0) (e:Evo ν F w σ.H ν' F' w' σ'.H) (p:Pin 0 ν ν' a.defers a'.defers w.heap.size):
 YI C σ' φ (fun r=>M r∨w.heap.size<=r/\r<w'.heap.size) ν' F' a' w' nt:=by
 have r0:=r
 refine ⟨r,fun r hr=> ?_,fun b o hb=> ?_,fun b o hb=>e.keep.sub b o (h.sub b o hb),fun D hD=> ?_,C.ab _ _ M _ w w' h.j ⟨e.os,e.tape,e.output,e.size,fun r hr hm=>e.frame r hr fun hx=>hm (h.mine r hx)⟩ fun r hr=>hr⟩
 ·rcases e.mine r hr with h1|h1
  ·exact .inl (h.mine r h1)
  ·exact .inr ⟨h1,r0.rel.mine_lt hr⟩
 ·rcases e.fz b o hb with h1|h1|h1
  ·exact (h.fz b o h1).imp id .inl
  ·exact .inr (.inl (h.mine b h1))
  ·exact .inr (.inr ⟨h1,r0.rel.old_lt hb⟩)
 ·obtain ⟨Do,k1,k2,k3⟩:=r0.defers
  have hlt:D<w'.heap.size:=by
   rw[k2]at hD
   obtain ⟨D',hD',e⟩:=List.mem_map.1 hD
   injection e with e _;injection e with e
   exact e▸(Array.getElem?_eq_some_iff.1 (k3 D' hD')).1
  obtain ⟨Ds,h1,h2⟩:=p.more
  rw[h1]at hD
  rcases List.mem_append.1 hD with hD|hD
  ·obtain ⟨D',hD',e⟩:=List.mem_map.1 hD
   injection e with e _;injection e with e
   exact .inr ⟨e▸h2 D' hD',hlt⟩
  ·exact .inl (h.marks D hD)
theorem gy_gw {c:Code} {Q':Exit->St->Prop} (h:GW P nt 0 c σ Q') (hq:∀e σ',Q' e σ'->Q e σ' φ):GY C nt c σ φ Q:=
 fun M ν F a w hy=>wpIn_mono (h none ν F a w hy.rs (JM.none w)) fun e a' w' ⟨σ',ν',F',q,r,e1,p1⟩=>⟨σ',φ,_,ν',F',hq e σ' q,hy.step r e1 p1⟩
theorem zYl {c:Code} {Q':Exit->St->Bool×List α->Prop} (h:GY C nt c σ φ Q') (hq:∀e σ φ,Q' e σ φ->Q e σ φ):GY C nt c σ φ Q:=
 fun M ν F a w hy=>wpIn_mono (h M ν F a w hy) fun _ _ _ ⟨σ',φ',M',ν',F',q,r⟩=>⟨σ',φ',M',ν',F',hq _ _ _ q,r⟩
def zHn (next:St->Bool×List α->Prop) (Q:Exit->St->Bool×List α->Prop):Exit->St->Bool×List α->Prop
 | .normal,σ,φ=>next σ φ
 |e,σ,φ=>Q e σ φ
def zGm (id:Nat) (Q:Exit->St->Bool×List α->Prop):Exit->St->Bool×List α->Prop
 | .exit j,σ,φ=>if j=id then Q .normal σ φ else Q (.exit j) σ φ
 |e,σ,φ=>Q e σ φ
theorem zYk (h:Q .normal σ φ):GY C nt .skip σ φ Q:=fun M ν F a w hy=>wpIn_skip ⟨σ,φ,M,ν,F,h,hy⟩
theorem zYm {id:Nat} (h:Q (.exit id) σ φ):GY C nt (.exit id) σ φ Q:=fun M ν F a w hy=>wpIn_exit ⟨σ,φ,M,ν,F,h,hy⟩
theorem ZDq (h:Q .ret σ φ):GY C nt .ret σ φ Q:=fun M ν F a w hy=>wpIn_ret ⟨σ,φ,M,ν,F,h,hy⟩
theorem zSa {l:Nat} (h:Q .normal σ φ):GY C nt (.label l) σ φ Q:=fun M ν F a w hy=>wpIn_label ⟨σ,φ,M,ν,F,h,hy⟩
theorem ZDp {x y:Code} (h:GY C nt x σ φ (zHn (fun σ' φ'=>GY C nt y σ' φ' Q) Q)):GY C nt (.seq x y) σ φ Q:=by
 intro M ν F a w hy
 refine wpIn_seq (wpIn_mono (h M ν F a w hy) fun e a1 w1 ⟨σ1,φ1,M1,ν1,F1,q,r1⟩=> ?_)
 cases e with
 |normal=>exact q M1 ν1 F1 a1 w1 r1
 |_=>exact ⟨σ1,φ1,M1,ν1,F1,q,r1⟩
theorem zSb {id:Nat} {c:Code} (h:GY C nt c σ φ (zGm id Q)):GY C nt (.block id c) σ φ Q:=by
 intro M ν F a w hy
 refine wpIn_block (wpIn_mono (h M ν F a w hy) fun e a1 w1 ⟨σ1,φ1,M1,ν1,F1,q,r1⟩=> ?_)
 cases e with
 |exit j=>
  simp only[Exit.inBlock,zGm]at*
  split at q
  ·rename_i e;rw[if_pos e];exact ⟨σ1,φ1,M1,ν1,F1,q,r1⟩
  ·rename_i e;rw[if_neg e];exact ⟨σ1,φ1,M1,ν1,F1,q,r1⟩
 |_=>exact ⟨σ1,φ1,M1,ν1,F1,q,r1⟩
theorem zYn {c:Operand} {x y:Code} {b:Bool} (hc:σ.ev c= .d (.sc (.bool b))) (h1:b=true->GY C nt x σ φ Q) (h2:b=false->GY C nt y σ φ Q):GY C nt (.cond c x y) σ φ Q:=by
 intro M ν F a w hy
 have hv:=QS hy.rs.rel.glob hy.rs.vals c
 rw[hc]at hv
 exact wpIn_cond_split hv.sc_inv (fun e=>h1 e M ν F a w hy) (fun e=>h2 e M ν F a w hy)
theorem zMo {c:Code} {β:Type 1} (inv:β->St) (ph:β->Bool×List α) (m:β->Nat) (a0:β) (hp:φ=ph a0) (hw:∀ν F a w,RS σ ν F a w nt 0->∃ν',RS (inv a0) ν' F a w nt 0/\Evo ν F w σ.H ν' F w (inv a0).H/\Pin 0 ν ν' a.defers a.defers w.heap.size)
 (h:∀x,GY C nt c (inv x) (ph x) (zHn (fun σ' φ'=>∃x',m x'<m x/\φ'=ph x'/\∀ν F a w,RS σ' ν F a w nt 0->∃ν',RS (inv x') ν' F a w nt 0/\Evo ν F w σ'.H ν' F w (inv x').H/\Pin 0 ν ν' a.defers a.defers w.heap.size) Q)):GY C nt (.loop c) σ φ Q:=by
 classical
 intro M ν F a w hy
 subst hp
 obtain ⟨ν0,r0,e0,p0⟩:=hw ν F a w hy.rs
 let Good (n:Nat) (a':Act) (w':World):Prop:=∃(x:β) (M':Nat->Prop) (ν':Nu) (F':Fz),m x=n/\YI C (inv x) (ph x) M' ν' F' a' w' nt
 let μ (a':Act) (w':World):Nat:=if h:∃n,Good n a' w' then Classical.choose (Wk h)else 0
 have hm:∀a' w',(∃n,Good n a' w')->Good (μ a' w') a' w'/\∀k,Good k a' w'->μ a' w'<=k:=fun a' w' h=>by
  have e:μ a' w'=Classical.choose (Wk h):=dif_pos h
  rw[e]
  exact Classical.choose_spec (Wk h)
 refine wpIn_loop (fun a' w'=>∃n,Good n a' w') μ ⟨_,a0,_,ν0,F,rfl,hy.step r0 e0 p0⟩ ?_
 intro a1 w1 hg
 obtain ⟨⟨x,M1,ν1,F1,hn,hy1⟩,hmin⟩:=hm a1 w1 hg
 refine wpIn_mono (h x M1 ν1 F1 a1 w1 hy1) fun e a2 w2 ⟨σ2,φ2,M2,ν2,F2,q,r2⟩=> ?_
 cases e with
 |normal=>
  obtain ⟨x',hlt,hph,hx'⟩:=q
  subst hph
  obtain ⟨ν3,r3,e3,p3⟩:=hx' ν2 F2 a2 w2 r2.rs
  have hg2:Good (m x') a2 w2:=⟨x',_,ν3,F2,rfl,r2.step r3 e3 p3⟩
  refine ⟨⟨_,hg2⟩,?_⟩
  have h1:=(hm a2 w2 ⟨_,hg2⟩).2 _ hg2
  rw[<-hn]
  omega
 |exit id=>exact ⟨σ2,φ2,M2,ν2,F2,q,r2⟩
 |goto l=>exact ⟨σ2,φ2,M2,ν2,F2,q,r2⟩
 |ret=>exact ⟨σ2,φ2,M2,ν2,F2,q,r2⟩
 |panic ch=>exact ⟨σ2,φ2,M2,ν2,F2,q,r2⟩
 |outgrown=>exact ⟨σ2,φ2,M2,ν2,F2,q,r2⟩
theorem YI.after {M:Nat->Prop} {ν:Nu} {F:Fz} {a:Act} {w w':World} (h:YI C σ φ M ν F a w nt) (hk:KeepM C.F M w w'):RS σ ν F a w' nt 0/\Keep F w F w':=by
 have hc:∀b o,F b o->w'.cell? ⟨b,o,none⟩=w.cell? ⟨b,o,none⟩/\jJ w' b=jJ w b:=fun b o hb=>by
  rcases h.fz b o hb with h1|h1
  ·exact ⟨hk.keep.same b o h1,hk.keep.sz b o h1⟩
  ·exact ⟨by simp only[World.cell?,hk.mine b h1],Zj (hk.mine b h1)⟩
 have hkk:Keep F w F w':=⟨fun _ _ h=>h,fun b o hb=>(hc b o hb).1,fun b o hb=>(hc b o hb).2⟩
 refine ⟨⟨h.rs.pin,fun t=>(h.rs.vals t).keep hkk (zl.refl _),⟨h.rs.rel.inj,fun i b hi=>(h.rs.rel.blk i b hi).keep hkk (zl.refl _) (fun r k e=>hk.mine r (h.mine r ⟨i,k,by rw[hi];rfl,e⟩)) (fun _ _ _ _=>Iff.rfl),fun b o hb=>by rw[hkk.same b o hb];exact h.rs.rel.old b o hb,h.rs.rel.glob.keep hkk⟩,?_,h.rs.free,h.rs.size,h.rs.fresh⟩,hkk⟩
 obtain ⟨Do,d1,d2,d3⟩:=h.rs.defers
 exact ⟨Do,d1,d2,fun D hD=>(hk.mine D (h.marks D (by rw[d2];exact List.mem_map.2 ⟨D,hD,rfl⟩))).trans (d3 D hD)⟩
def GYO [Laid] {P:Program} {α:Type} (C:YC P α) (nt:Nat) (ops:Array Oper) (k:Nat) (σ:St) (φ:Bool×List α) (Q:Exit->St->Bool×List α->Prop):Prop:=
 ∀M ν F a w,YI C σ φ M ν F a w nt->wpOpsIn (rnd none) 0 P ops (ZBb C nt Q) (List.range' k (ops.size-k)) a w
theorem zMn {id:Nat} {ops:Array Oper} (h:GYO C nt ops 0 σ φ Q):GY C nt (.region id ops false) σ φ Q:=fun M ν F a w hy=>by
 refine wpIn_region ?_
 rw[List.range_eq_range']
 exact h M ν F a w hy
theorem zYj {ops:Array Oper} {k:Nat} (hk:Nat.beq ops.size k=true) (h:Q .normal σ φ):GYO C nt ops k σ φ Q:=fun M ν F a w hy=>by
 rw[Nat.eq_of_beq_eq_true hk,Nat.sub_self]
 exact ⟨σ,φ,M,ν,F,h,hy⟩
theorem YX {ops:Array Oper} {Q:St->Prop} {p:Nat} {R:Exit->Act->World->Prop} {tl:List Nat} (hg:zt ops nt=true) {ν0:Nu} {F0:Fz} {w0:World} {H0:Hp} {l0:List Deferred} {ro:Option Nat}
 (hc:∀σ ν F a w,Q σ->RS σ ν F a w nt p->Evo ν0 F0 w0 H0 ν F w σ.H->Pin p ν0 ν l0 a.defers w0.heap.size->wpOpsIn (rnd ro) 0 P ops R tl a w):
 ∀(rest:List Oper) (σ:St) (feet:List Foot) (k:Nat),(∃more,ops.toList.drop k=rest++more)->GRun P ops nt (fun σ _=>Q σ) rest σ feet→
 ∀(ν:Nu) (F:Fz) (a:Act) (w:World),RS σ ν F a w nt p->Evo ν0 F0 w0 H0 ν F w σ.H->Pin p ν0 ν l0 a.defers w0.heap.size→
 wpOpsIn (rnd ro) 0 P ops R (List.range' k rest.length++tl) a w:=by
 intro rest
 induction rest with
 |nil=>
  intro σ feet k hk h ν F a w hr he hp
  cases h with
  |nil _ _ h=>exact hc σ ν F a w h hr he hp
 |cons o rest ih=>
  intro σ feet k hk h ν F a w hr he hp
  cases h with
  |cons _ _ _ _ s hs h=>
   obtain ⟨more,hk⟩:=hk
   have hok:ops[k]? =some o:=by
    have:ops.toList[k]? =some o:=by
     have:=congrArg (·[0]?) hk
     simpa using this
    simpa using this
   have hrest:ops.toList.drop (k+1)=rest++more:=by
    have:=congrArg List.tail hk
    simpa [List.tail_drop]using this
   rw[List.length_cons,List.range'_succ,List.cons_append,wpOpsIn,hok]
   have hN:∀i,i∈s.E.new->σ.H i=none:=fun i hi=>hr.fresh i (hs.new i hi).1
   refine wq hs (fun _ _=>rfl) (fun _ _=>rfl) hN hr.vals hr.rel hr.defers (fun i hi=>hr.free i (hs.new i hi).1) hr.size (fun j want d _ hd=>yy hg hd) ?_
   intro a' w' ν' F' v1 v2 hrel hdd hdef hnew hsz hev
   refine ih (σ.app o s) _ (k+1) ⟨more,hrest⟩ h ν' F' a' w' ⟨?_,?_,?_,hdef,?_,hsz,?_⟩ (he.trans (by rw[St.H_app];exact hev)) (hp.trans (Pin.of w.heap.size hdd fun i hi=> ?_) he.size)
   ·exact Nat.le_trans hr.pin (Nat.le_add_right _ _)
   ·intro t
    by_cases ht:o.dst=some t
    ·rw[St.get_app_same _ _ _ _ ht];exact v2 t ht
    ·rw[St.get_app_other _ _ _ _ ht];exact v1 t ht
   ·rw[St.H_app];exact hrel
   ·intro i hi
    have hi':σ.next+s.E.new.length<=i:=hi
    have:ν' i=ν i:=Classical.byContradiction fun hne=>by have:=hs.new i (hnew i hne);omega
    rw[this];exact hr.free i (by omega)
   ·intro i hi
    have hi':σ.next+s.E.new.length<=i:=hi
    rw[St.H_app,Zf _ _ _ (fun hm=>by have:=hs.touch hm;omega)]
    exact hr.fresh i (by omega)
   ·have:ν' i=ν i:=Classical.byContradiction fun hne=>by have:=hs.new i (hnew i hne);have:=hr.pin;omega
    exact this
theorem zYi {ops:Array Oper} {k m:Nat} (hg:zt ops nt=true) (hm:Nat.ble (k+m) ops.size=true) (h:GRun P ops nt (fun σ' _=>GYO C nt ops (k+m) σ' φ Q) ((ops.toList.drop k).take m) σ []):GYO C nt ops k σ φ Q:=fun M ν F a w hy=>by
 have hm':=Nat.le_of_ble_eq_true hm
 have hl:((ops.toList.drop k).take m).length=m:=by rw[List.length_take,List.length_drop,Array.length_toList];omega
 have e:List.range' k (ops.size-k)=List.range' k ((ops.toList.drop k).take m).length++List.range' (k+m) (ops.size-(k+m)):=by
  rw[hl]
  have:=List.range'_append_1 (s:=k) (m:=m) (n:=ops.size-(k+m))
  rw[this];congr 1;omega
 rw[e]
 exact YX hg (fun σ' ν' F' a' w' q r e p=>q _ ν' F' a' w' (hy.step r e p)) _ σ [] k ⟨(ops.toList.drop k).drop m,(List.take_append_drop _ _).symm⟩ h ν F a w hy.rs (Evo.refl _ _ _ _) (Pin.refl _ _ _ _)
theorem Ve {ops:Array Oper} {k:Nat} (t:Nat) {b b':Bool} {tm:List (Nat×G)} {hp:List (Nat×Option Blk)} {n:Nat} (hb:b=b') (h:GYO C nt ops k ⟨(t,.d (.sc (.bool b')))::tm,hp,n⟩ φ Q) (ht:zg tm t= .d (.sc (.bool b)):=by rfl):GYO C nt ops k ⟨tm,hp,n⟩ φ Q:=fun M ν F a w hy=>by
 refine h M ν F a w ⟨⟨hy.rs.pin,fun t'=> ?_,hy.rs.rel,hy.rs.defers,hy.rs.free,hy.rs.size,hy.rs.fresh⟩,hy.mine,hy.fz,hy.sub,hy.marks,hy.j⟩
 show VR ν F w (bif Nat.beq t' t then _ else _) _
 cases e:Nat.beq t' t with
 |true=>
  have:=hy.rs.vals t
  rw[Nat.eq_of_beq_eq_true e,<-hb,<-ht];exact this
 |false=>exact hy.rs.vals t'
def G.plain:G->Bool
 | .d (.sc _)=>true
 | .agg l=>plainL l
 |_=>false
  where plainL:List G->Bool
 | []=>true
 |g::l=>G.plain g&&plainL l
theorem wx {l:List G} (h:G.plain.plainL l=true):∀g,g∈l->G.plain g=true:=by
 induction l with
 |nil=>intro g hg;cases hg
 |cons x l ih=>
  simp only[G.plain.plainL,Bool.and_eq_true]at h
  intro g hg
  rcases List.mem_cons.1 hg with rfl|hg
  ·exact h.1
  ·exact ih h.2 g hg
theorem VR.plain {ν ν':Nu} {F F':Fz} {w w':World} {g:G} {v:Value} (h:VR ν F w g v):G.plain g=true->VR ν' F' w' g v:=by
 induction h with
 |d h=>
  intro hp
  cases h with
  |sc _ h=>exact .d (.sc _ h)
  |row=>cases hp
 |agg cells cs h1 hc _ ih=>intro hp;exact .agg cells cs h1 hc fun j g u a b=>ih j g u a b (wx hp g (List.mem_of_getElem? a))
 |_=>intro hp;cases hp
theorem zMm {ops:Array Oper} {k:Nat} {f:Operand} {args:Array Operand} {tys:Array TypeId} {o:Oper} {d:Nat} {qs:List Prop} (x:α) (rest:List α) {pre:List α} {tm:List (Nat×G)} {hp:List (Nat×Option Blk)} {n:Nat}
 (h:∀b:Bool,GYO C nt ops (k+1) ⟨(d,.d (.sc (.bool b)))::tm,hp,n⟩ (b,pre++ [x]) Q)
 (hlen:pre++x::rest=C.xs) (hgx:VU ⟨tm,hp,n⟩ args.toList=some (C.gs x)) (hpl:G.plain.plainL (C.gs x)=true)
 (ho:ops[k]? =some o) (hop:o.op= .call {callee:= .value f,args:=args,argTypes:=tys}) (hd:o.dst=some d) (hdn:Nat.blt d nt=true) (hg:zt ops nt=true)
 (hw:YM ops ⟨tm,hp,n⟩ o=some true) (hf:opA ⟨tm,hp,n⟩ f= .fn (.yield C.l) [] []) (hst:zDo true ⟨tm,hp,n⟩ (f::args.toList)=some qs) (hqs:zC qs):GYO C nt ops k ⟨tm,hp,n⟩ (true,pre) Q:=fun M ν F a w hy=>by
 have hk:k<ops.size:=(Array.getElem?_eq_some_iff.1 ho).1
 have e:ops.size-k=(ops.size-(k+1))+1:=by omega
 rw[e,List.range'_succ,wpOpsIn,ho]
 simp only[]
 rw[vO hw hy.rs.vals (fun j want d' e1 e2=>by rw[hy.rs.size];exact yy hg e2),if_pos rfl]
 have hfv:a.eval f= .func (.yield C.l) #[] #[]:=by
  have h1:=JX (c:=true) (QS hy.rs.rel.glob hy.rs.vals f) rfl (KC _ _ hst hqs f List.mem_cons_self)
  unfold opA at hf
  rw[hf]at h1
  generalize a.eval f=u at h1
  cases h1 with
  |fn f first captured fs cs h1 h2 k1 k2=>rw[Array.eq_empty_of_size_eq_zero h1,Array.eq_empty_of_size_eq_zero h2]
 have hargs:VRs (fun _=>none) F w (C.gs x) (args.map a.eval):=by
  rw[<-Qh _ _ hgx]
  refine ⟨by simp,fun j g u h1 h2=> ?_⟩
  rw[List.getElem?_map]at h1
  rw[Array.getElem?_map]at h2
  cases hj:args[j]? with
  |none=>rw[hj]at h2;cases h2
  |some z=>
   have hj':args.toList[j]? =some z:=by simpa using hj
   rw[hj']at h1;rw[hj]at h2
   cases h1;cases h2
   have h3:=JX (c:=true) (QS hy.rs.rel.glob hy.rs.vals z) rfl (KC _ _ hst hqs z (List.mem_cons_of_mem _ (List.mem_of_getElem? hj')))
   refine h3.plain (wx hpl _ ?_)
   rw[<-Qh _ _ hgx]
   exact List.mem_map.2 ⟨z,List.mem_of_getElem? hj',rfl⟩
 obtain ⟨fn,tmps,assign,body,h1,h2⟩:=C.yl pre x rest M w _ hy.j hlen (hargs.2|>fun hh=>⟨hargs.1,fun j g u a b=>(hh j g u a b).plain (wx hpl g (List.mem_of_getElem? a))⟩)
 refine ⟨fun _ _=>trivial,?_⟩
 rw[Oper.semAt_eq _ _ _ (fun c hc=>by rw[hop]at hc;cases hc)]
 have hrun:(execOp a.eval o).run P w= .ok (.round C.l fn tmps assign body) w:=by
  simp[execOp,hop,resolve,hfv,Deferred.ofValue,invoke,h1]
  done
 rw[hrun,Oper.uponIn_round]
 refine ⟨fun h=>(by cases h),RoundIn.mono h2 fun e w' ⟨b,he,hj,hk⟩=> ?_⟩
 subst he
 have hlt:d<a.tmps.size:=by rw[hy.rs.size];simpa using hdn
 obtain ⟨r1,r2⟩:=hy.after hk
 refine h b M ν F _ w' ⟨⟨r1.pin,fun t=> ?_,r1.rel,?_,r1.free,?_,r1.fresh⟩,hy.mine,hy.fz,hy.sub,fun D hD=>hy.marks D (by rw[hd]at hD;exact hD),hj⟩
 ·show VR ν F w' (bif Nat.beq t d then _ else _) _
  rw[hd]
  cases e:Nat.beq t d with
  |true=>rw[Nat.eq_of_beq_eq_true e];simp[Act.put,hlt];exact .d (.sc _ rfl)
  |false=>
   have hne:d≠t:=fun h=>by subst h;rw[Nat.beq_refl]at e;cases e
   have:=r1.vals t
   show VR ν F w' (St.get ⟨tm,hp,n⟩ t) _
   simpa [Act.put,Array.getElem?_setIfInBounds_ne hne]using this
 ·rw[hd];exact r1.defers
 ·rw[hd];simp[Act.put];exact hy.rs.size
end
end Go.Gh
namespace Go.Gh
open Go Go.RowKit
set_option linter.unusedVariables false
set_option linter.unusedSectionVars false
def Xv [Laid] (P:Program) (gf:Nat) (caps:List G) {α:Type} (gs:α->List G) (xs:List α):Prop:=
 Body P gf/\∀(C:YC P α) (W:World) (lb:Array Value),C.gs=gs->C.xs=xs->UW C.F W->(∀b o,C.F b o->(W.cell? ⟨b,o,none⟩).isSome=true)->VRs (fun _=>none) C.F W caps lb->C.J true [] (fun _=>False) W→
  CallsIn Fence.wide 1 P gf (#[.func (.yield C.l) #[] #[]]++lb) W fun e W'=>(∃v,e= .returned v)/\((∃M,C.J true xs M W')∨∃pre M,C.J false pre M W')
def zOb {α:Type} (xs:List α):Exit->St->Bool×List α->Prop:=fun e _ φ=>VC e/\(φ=(true,xs)∨φ.1=false)
theorem Jm [Laid] {P:Program} {gf:Nat} {fn:Func} {c:Code} {caps:List G} {α:Type} {gs:α->List G} {xs:List α} (hf:P.funcs[gf]? =some fn) (h:∀C:YC P α,C.gs=gs->C.xs=xs->GY C fn.ntmps c ⟨Zc 0 (.fn (.yield C.l) [] []::caps),[],0⟩ (true,[]) (zOb xs))
 (hb:fn.body=some c:=by rfl) (hname:(fn.name== "runtime.NumGoroutine")=false:=by rfl) (hcl:G.ltL 0 caps=true:=by rfl) (hlen:Nat.ble (caps.length+1) fn.ntmps=true:=by rfl) (hres:fn.results= #[]:=by rfl):Xv P gf caps gs xs:=by
 refine ⟨⟨fn,c,hf,hb,hname⟩,fun C W lb hg hN hgl hold hv hj=> ?_⟩
 have hle:=Nat.le_of_ble_eq_true hlen
 simp only[Zw,List.all_eq_true]at hcl
 generalize hvs: #[Value.func (.yield C.l) #[] #[]]++lb=vs
 have hsz:vs.size=caps.length+1:=by rw[<-hvs];simp[hv.1];omega
 have hvr:VRs (fun _=>none) C.F W (.fn (.yield C.l) [] []::caps) vs:=by
  refine ⟨by simpa using hsz,fun j g u h1 h2=> ?_⟩
  rw[<-hvs]at h2
  cases j with
  |zero=>
   rw[Array.getElem?_append_left (by simp)]at h2
   simp at h1 h2
   subst h1;subst h2
   exact .fn _ _ _ _ _ rfl rfl (fun j g u a b=>by simp at a) (fun j g u a b=>by simp at a)
  |succ j=>
   simp only[List.getElem?_cons_succ]at h1
   refine hv.2 j g u h1 ?_
   rw[Array.getElem?_append_right (by simp)]at h2
   simpa using h2
 have hrs:RS ⟨Zc 0 (.fn (.yield C.l) [] []::caps),[],0⟩ (fun _=>none) C.F {tmps:=vs++Array.replicate (fn.ntmps-vs.size) undef,defers:=[]} W fn.ntmps 0:=by
  refine ⟨Nat.le_refl _,fun t=> ?_,⟨fun i j r k k' hi=>(by cases hi),fun i b hb=>(by cases hb),hold,hgl⟩,.nil _,fun _ _=>rfl,by simp[hsz];omega,fun i _=>rfl⟩
  show VR _ C.F W (zg (Zc 0 (.fn (.yield C.l) [] []::caps)) t) _
  rw[Yv,if_pos (Nat.zero_le _),Nat.sub_zero]
  cases ht:(G.fn (.yield C.l) [] []::caps)[t]? with
  |none=>exact .junk _
  |some g'=>
   have hlt:t<vs.size:=by rw[hvr.1];exact (List.getElem?_eq_some_iff.1 ht).1
   have e1:(vs++Array.replicate (fn.ntmps-vs.size) undef).getD t undef=vs[t]:=by
    simp[Array.getD,hlt]
    intro h;omega
   rw[e1]
   exact hvr.2 t g' _ ht (by simp[hlt])
 have hy:YI C ⟨Zc 0 (.fn (.yield C.l) [] []::caps),[],0⟩ (true,[]) (fun _=>False) (fun _=>none) C.F {tmps:=vs++Array.replicate (fn.ntmps-vs.size) undef,defers:=[]} W fn.ntmps:=
  ⟨hrs,fun r ⟨i,k,hi,_⟩=>(by cases hi),fun b o h=> .inl h,fun b o h=>h,fun D hD=>(by cases hD),hj⟩
 refine (callsIn_wide (n:=1)).2 ((callsIn_wide (n:=0)).1 (callsIn_of_wp_marks hf hb trivial ?_))
 refine wpIn_mono (h C hg hN _ _ _ _ _ hy) fun e a0 w0 ⟨σ',φ,M,ν',F',⟨he,hend⟩,hy'⟩=> ?_
 suffices hh:LeavesInM (rnd none) 0 P fn a0.tmps (fun e W'=>(∃v,e= .returned v)/\((∃M,C.J true xs M W')∨∃pre M,C.J false pre M W')) a0.defers .returning w0 by
  rcases he with rfl|rfl<;>exact hh
 obtain ⟨Do,d1,d2,d3⟩:=hy'.rs.defers
 rw[d2]
 refine VH Do w0 d1 d3 fun w2 hs=>⟨_,results_none hres _ _ _,⟨_,rfl⟩,?_⟩
 have hj2:=C.ab φ.1 φ.2 M M w0 w2 hy'.j ⟨hs.os,hs.tape,hs.output,by rw[hs.size];exact Nat.le_refl _,fun r _ hm=>hs.other r fun hD=>hm (hy'.marks r (by rw[d2];exact List.mem_map.2 ⟨r,hD,rfl⟩))⟩ fun r hr=> .inl hr
 rcases hend with rfl|hend
 ·exact .inl ⟨M,hj2⟩
 ·rw[hend]at hj2;exact .inr ⟨_,M,hj2⟩
structure BLM [Laid] (q:Nat) (ν:Nu) (F:Fz) (w:World) (H:Hp) (τ:St) (M:Nat->Prop) (W:World) (ν1:Nu) (F1:Fz):Prop where
 rel:Rel ν1 F1 W τ.H
 free:∀i,τ.next<=i->ν1 i=none
 fresh:∀i,τ.next<=i->τ.H i=none
 pin:q<=τ.next
 evo:Evo ν F w H ν1 F1 W τ.H
 same:∀i,i<q->ν1 i=ν i
 apart:∀r,M r->w.heap.size<=r/\r<W.heap.size/\¬jf ν1 τ.H r/\∀o,¬F1 r o
theorem BLM.quiet [Laid] {q:Nat} {ν:Nu} {F:Fz} {w:World} {H:Hp} {τ:St} {M M':Nat->Prop} {W W':World} {ν1:Nu} {F1:Fz} (h:BLM q ν F w H τ M W ν1 F1) (hq:Quiet M W W') (hm:∀r,M' r->M r∨W.heap.size<=r/\r<W'.heap.size):BLM q ν F w H τ M' W' ν1 F1:=by
 have hF:∀b o,F1 b o->W'.heap[b]? =W.heap[b]? :=fun b o hb=>hq.frame b (h.rel.old_lt hb) fun hm=>(h.apart b hm).2.2.2 o hb
 have hk:Keep F1 W F1 W':=⟨fun _ _ h=>h,fun b o hb=>by simp only[World.cell?,hF b o hb],fun b o hb=>Zj (hF b o hb)⟩
 have hM:∀r,jf ν1 τ.H r->W'.heap[r]? =W.heap[r]? :=fun r hr=>hq.frame r (h.rel.mine_lt hr) fun hm=>(h.apart r hm).2.2.1 hr
 refine ⟨⟨h.rel.inj,fun i b hi=>(h.rel.blk i b hi).keep hk (zl.refl _) (fun r k e=>hM r ⟨i,k,by rw[hi];rfl,e⟩) (fun _ _ _ _=>Iff.rfl),fun b o hb=>by rw[hk.same b o hb];exact h.rel.old b o hb,h.rel.glob.keep hk⟩,h.free,h.fresh,h.pin,
  ⟨h.evo.keep.trans hk,hq.os.trans h.evo.os,hq.tape.trans h.evo.tape,hq.output.trans h.evo.output,Nat.le_trans h.evo.size hq.size,fun r hr hn=>(hq.frame r (Nat.lt_of_lt_of_le hr h.evo.size) fun hm=>by have:=(h.apart r hm).1;omega).trans (h.evo.frame r hr hn),h.evo.mine,h.evo.fz⟩,h.same,fun r hr=> ?_⟩
 rcases hm r hr with h1|h1
 ·obtain ⟨a1,a2,a3,a4⟩:=h.apart r h1
  exact ⟨a1,Nat.lt_of_lt_of_le a2 hq.size,a3,a4⟩
 ·exact ⟨Nat.le_trans h.evo.size h1.1,h1.2,fun hx=>by have:=h.rel.mine_lt hx;omega,fun o ho=>by have:=h.rel.old_lt ho;omega⟩
theorem zKo {M:Nat->Prop} {W:World} {l:Nat} {o o':Obj} (h:W.heap[l]? =some o):Quiet (fun r=>M r∨r=l) W (W.putObj l o'):=
 ⟨rfl,rfl,rfl,by simp[World.putObj],fun r _ hm=>World.putObj_heap_other fun e=>hm (.inr e)⟩
theorem Rel.notDull [Laid] {ν:Nu} {F:Fz} {w:World} {H:Hp} (hr:Rel ν F w H) {l:Nat} {o:Obj} (h:w.heap[l]? =some o) (hd:vp o=true):¬jf ν H l/\∀k,¬F l k:=by
 refine ⟨fun ⟨i,k,hi,e⟩=> ?_,fun k hk=> ?_⟩
 ·obtain ⟨b,hb⟩:=Option.isSome_iff_exists.1 hi
  have hbr:=hr.blk i b hb
  rw[e]at hbr
  cases b with
  |box cells=>obtain ⟨r,q,arr,T,e1,h5,_⟩:=hbr;cases e1;rw[h]at h5;cases h5;cases hd
  |row ty es df cs xs fz=>
   rcases hbr with ⟨h5,_⟩|⟨r,q,arr,e1,h5,_⟩
   ·cases h5
   ·cases e1;rw[h]at h5;cases h5;cases hd
  |mp L=>obtain ⟨r,q,es,c,e1,h5,_⟩:=hbr;cases e1;rw[h]at h5;cases h5;cases hd
  |tbx T vs=>obtain ⟨r,q,e1,h5,_⟩:=hbr;cases e1;rw[h]at h5;cases h5;cases hd
 ·have h1:=hr.old l k hk
  simp only[World.cell?,h]at h1
  cases o<;>first|(simp[vp]at hd;done)|(simp at h1;done)
theorem BLM.put [Laid] {q:Nat} {ν:Nu} {F:Fz} {w:World} {H:Hp} {τ:St} {M:Nat->Prop} {W:World} {ν1:Nu} {F1:Fz} (h:BLM q ν F w H τ M W ν1 F1) {l:Nat} {o o':Obj} (hl:W.heap[l]? =some o) (hd:vp o=true) (hw:w.heap.size<=l):BLM q ν F w H τ M (W.putObj l o') ν1 F1:=by
 have hb:BLM q ν F w H τ (fun r=>M r∨r=l) W ν1 F1:=⟨h.rel,h.free,h.fresh,h.pin,h.evo,h.same,fun r hr=>by
  rcases hr with hr|rfl
  ·exact h.apart r hr
  ·exact ⟨hw,(Array.getElem?_eq_some_iff.1 hl).1,h.rel.notDull hl hd⟩⟩
 exact hb.quiet (zKo hl) fun r hr=> .inl (.inl hr)
def RQG [Laid] (q:Nat) (I':Prop) (tm:List (Nat×G)) (τ:St) (Q:Exit->St->Prop):Exit->St->Prop
 | .normal,σ'=>I'/\∃ρ,Weak q ρ ⟨[],σ'.hp,σ'.next⟩ τ
 | .ret,σ'=>Q .ret ⟨tm,σ'.hp,σ'.next⟩
 | .exit id,σ'=>Q (.exit id) ⟨tm,σ'.hp,σ'.next⟩
 | .goto t,σ'=>Q (.goto t) ⟨tm,σ'.hp,σ'.next⟩
 |_,_=>False
theorem zMr [Laid] {P:Program} {nt p:Nat} {σ:St} {Q:Exit->St->Prop} {g:Operand} {ps:Array Tmp} {assign body:Code} {α:Type} (q gf:Nat) (caps:List G) (gs:α->List G) (xs:List α) (inv:List α->List (Nat×Option Blk)) (I:List α->Prop) (hI:I [])
 (hg:σ.ev g= .fn (.func gf) [] caps) (hcl:G.ltL 0 caps=true) (hi:Xv P gf caps gs xs) (hgs:∀x,G.ltL 0 (gs x)=true)
 (hpl:∀t,t∈ps.toList->t<nt) (hpq:p<=q) (hqn:q<=σ.next) (hlt:ltT q σ.tmps=true) (h0:inv []=σ.hp)
 (tm1:α->List (Nat×G)) (hT:∀x,VS ps.toList (gs x) σ.tmps=some (tm1 x))
 (hround:∀pre x rest,pre++x::rest=xs->I pre->GW P nt q assign ⟨tm1 x,inv pre,σ.next⟩ (fun e σ1=>e= .normal/\GW P nt q body σ1 (RQG q (I (pre++ [x])) σ.tmps ⟨[],inv (pre++ [x]),σ.next⟩ Q)))
 (hdone:I xs->Q .normal ⟨σ.tmps,inv xs,σ.next⟩):GW P nt p (.rangeFunc g ps assign body) σ Q:=by
 intro ro ν F a w hr hlv
 have hv:=QS hr.rel.glob hr.vals g
 rw[hg]at hv
 obtain ⟨lb,hlb,hcs⟩:∃lb,a.eval g= .func (.func gf) #[] lb/\VRs (fun _=>none) F w caps lb:=by
  generalize a.eval g=u at hv
  cases hv with
  |fn f first captured fs cs h1 h2 k1 k2=>
   have e:fs= #[]:=Array.eq_empty_of_size_eq_zero h1
   subst e
   simp only[Zw,List.all_eq_true]at hcl
   exact ⟨cs,rfl,h2,fun j g u hg hu=>(k2 j g u hg hu).closed (hcl g (List.mem_of_getElem? hg))⟩
 obtain ⟨⟨fn0,c0,b1,b2,b3⟩,hiter⟩:=hi
 have hsz:∀x (args:Array Value),args.size=(gs x).length->args.size=ps.size:=fun x args ha=>by
  rw[ha]
  have key:∀(ts:List Nat) (gs:List G) tm tm',VS ts gs tm=some tm'->gs.length=ts.length:=by
   intro ts
   induction ts with
   |nil=>intro gs tm tm' h;cases gs with
    |nil=>rfl
    |cons=>simp[VS]at h
   |cons t ts ih=>intro gs tm tm' h;cases gs with
    |nil=>simp[VS]at h
    |cons g gs=>simp only[VS]at h;simp[ih _ _ _ h]
  have:=key _ _ _ _ (hT x)
  simpa using this
 refine wpIn_rangeFunc ?_
 intro fn _
 obtain ⟨l,Ds,W1,dB,hent,hbel,hgr,hwl,hL1,hnd,hDs⟩:=zFx (P:=P) hlv fn a.tmps ps assign body
 obtain ⟨rec,hrec⟩:∃rec:LoopState->Option Code->Loop,rec=fun st pe=> {state:=st,pending:=pe,fn,tmps:=a.tmps,params:=ps,assign,body,defers:=dB} :=⟨_,rfl⟩
 have hL:W1.heap[l]? =some (.loop (rec .ready none)):=by rw[hrec];exact hL1
 clear hL1
 have hvals:∀ {ν1:Nu} {F1:Fz} {W:World},Keep F w F1 W->(∀i,i<q->ν1 i=ν i)->∀t,VR ν1 F1 W (zg σ.tmps t) (a.tmps.getD t undef):=fun hk hν t=>by
  have h1:=(hr.vals t).agree hν (zXl hlt t)
  exact h1.keep hk (zl.refl _)
 refine ⟨l,_,W1, {target:= .fn (.func gf) lb,args:= #[.func (.yield l) #[] #[]]},W1,gf,#[.func (.yield l) #[] #[]]++lb,W1,hent,?_,fun _ _=>trivial,?_,fun h=>(by cases h),?_⟩
 ·simp only[resolve,hlb]
  simp[go_sem]
 ·have hnm:¬(fn0.name= "runtime.NumGoroutine"):=by simpa using b3
  simp[invoke,go_sem,callFunc,b1,hnm,b2]
 ·let J:Bool->List α->(Nat->Prop)->World->Prop:=fun b pre M W=>(∀r,M r->r≠l/\r∉Ds)/\(∀D,D∈Ds->W.heap[D]? =some (.deferred (some [])))∧
   match b with
   |true=>I pre/\(∃ν1 F1,BLM q ν F w σ.H ⟨[],inv pre,σ.next⟩ M W ν1 F1)/\W.heap[l]? =some (.loop (rec .ready none))
   |false=>∃(c:Code) (e:Exit) (σ':St),zTr e=some c/\Q e ⟨σ.tmps,σ'.hp,σ'.next⟩/\(∃ν1 F1,BLM q ν F w σ.H σ' M W ν1 F1)/\W.heap[l]? =some (.loop (rec .done (some c)))
  have hlt1:l<W1.heap.size:=(Array.getElem?_eq_some_iff.1 hL).1
  have hb1:Quiet (fun _=>False) w W1:=⟨hgr.os,hgr.tape,hgr.output,hgr.size,fun r hr _=>hgr.block r hr (by simp)⟩
  have hJ0:J true [] (fun _=>False) W1:=by
   refine ⟨fun r h=>h.elim,fun D hD=>(hDs D hD).2.2,hI,⟨ν,F,BLM.quiet (M:=fun _=>False) ⟨?_,hr.free,?_,hqn,?_,fun _ _=>rfl,fun r h=>h.elim⟩ hb1 fun r h=> .inl h⟩,hL⟩
   ·show Rel ν F w (look (inv []) zU);rw[h0];exact hr.rel
   ·intro i hi;show look (inv []) zU i=none;rw[h0];exact hr.fresh i hi
   ·show Evo ν F w σ.H ν F w (look (inv []) zU);rw[h0];exact Evo.refl _ _ _ _
  have hQ:∀ {M:Nat->Prop} {A B:World} {o:Obj},(∀r,M r->r≠l/\r∉Ds)->Quiet M A B->A.heap[l]? =some o->B.heap[l]? =some o:=fun hm hq h=>(hq.frame l (Array.getElem?_eq_some_iff.1 h).1 fun h=>(hm l h).1 rfl).trans h
  have hQD:∀ {M:Nat->Prop} {A B:World},(∀r,M r->r≠l/\r∉Ds)->Quiet M A B->(∀D,D∈Ds->A.heap[D]? =some (.deferred (some [])))->∀D,D∈Ds->B.heap[D]? =some (.deferred (some [])):=fun hm hq h D hD=>(hq.frame D (Array.getElem?_eq_some_iff.1 (h D hD)).1 fun h=>(hm D h).2 hD).trans (h D hD)
  let C:YC P α:= {l:=l,J:=J,gs:=gs,xs:=xs,F:=F,ab:= ?ab,yl:= ?yl}
  case ab=>
   rintro b pre M M' A B ⟨h1,h2,h3⟩ hq hm
   have hm':∀r,M' r->r≠l/\r∉Ds:=fun r hr=>by
    rcases hm r hr with h|h
    ·exact h1 r h
    ·refine ⟨fun e=> ?_,fun e=> ?_⟩
     ·subst e
      have hl:∃o,A.heap[r]? =some o:=by
       cases b with
       |true=>exact ⟨_,h3.2.2⟩
       |false=>obtain ⟨c,e,σ',x1,x2,x3,x4⟩:=h3;exact ⟨_,x4⟩
      obtain ⟨o,hl⟩:=hl
      have:=(Array.getElem?_eq_some_iff.1 hl).1;omega
     ·have:=(Array.getElem?_eq_some_iff.1 (h2 r e)).1;omega
   refine ⟨hm',hQD h1 hq h2,?_⟩
   cases b with
   |true=>obtain ⟨hpre,⟨ν1,F1,h3⟩,h4⟩:=h3;exact ⟨hpre,⟨ν1,F1,h3.quiet hq hm⟩,hQ h1 hq h4⟩
   |false=>obtain ⟨c,e,σ',x1,x2,⟨ν1,F1,x3⟩,x4⟩:=h3;exact ⟨c,e,σ',x1,x2,⟨ν1,F1,x3.quiet hq hm⟩,hQ h1 hq x4⟩
  case yl=>
   rintro pre x rest M W args ⟨hML,hm,hIp,⟨ν1,F1,hb⟩,hl⟩ hlen hargs
   have hy:=run_yield (P:=P) (args:=args) hl (by rw[hrec];exact hsz x args hargs.1)
   rw[hrec]at hy
   refine ⟨fn,_,assign,body,hy,roundIn_of_wpIn trivial ?_⟩
   clear hy
   obtain ⟨r1,r2,r3,r4,r5,r6,r7⟩:=hb
   have hact:RS ⟨tm1 x,inv pre,σ.next⟩ ν1 F1 {tmps:=(ps.zip args).foldl (fun t (p,v)=>t.setIfInBounds p v) a.tmps,defers:=[]} W nt q:=by
    have e1:(ps.zip args).foldl (fun (t:Array Value) (p,v)=>t.setIfInBounds p v) a.tmps=(ps.toList.zip args.toList).foldl (fun t (p,v)=>t.setIfInBounds p v) a.tmps:=by
     rw[<-Array.foldl_toList,Array.toList_zip]
    refine ⟨r4,fun t=> ?_,r1,.nil _,r2,?_,r3⟩
    ·show VR ν1 F1 W _ (((ps.zip args).foldl (fun (t:Array Value) (p,v)=>t.setIfInBounds p v) a.tmps).getD t undef)
     rw[e1]
     refine zQc ps.toList (gs x) args.toList σ.tmps (tm1 x) a.tmps (hT x) (by simpa using hargs.1) (fun j g u hg hu=> ?_) (fun t ht=>by rw[hr.size];exact hpl t ht) (hvals r5.keep r6) t
     exact (hargs.2 j g u hg (by simpa using hu)).keep ⟨fun b o h=>r5.keep.sub b o h,fun _ _ _=>rfl,fun _ _ _=>rfl⟩ (fun i p hi=>(by cases hi))
    ·show ((ps.zip args).foldl (fun (t:Array Value) (p,v)=>t.setIfInBounds p v) a.tmps).size=nt
     rw[e1,zMz];exact hr.size
   refine wpIn_mono (hround pre x rest hlen hIp (some l) ν1 F1 _ W hact (fun l' e=>by cases e;exact ⟨_,hl⟩)) ?_
   rintro e a2 W2 ⟨σ2,ν2,F2,⟨rfl,hbody⟩,s2,e2,p2⟩
   have hl2:=e2.notMine r1 hl rfl
   have hm2:∀D,D∈Ds->W2.heap[D]? =some (.deferred (some [])):=fun D hD=>e2.notMine r1 (hm D hD) rfl
   have hbeg:=run_beginRound (P:=P) hl2 (by rw[hrec])
   refine ⟨_,hbeg,?_⟩
   have hc2:=VD (B:=w.heap.size) (o':= .loop {rec .ready none with state:= .busy}) hwl hl2 rfl
   have hl3:(W2.putObj l (.loop {rec .ready none with state:= .busy})).heap[l]? =some (.loop {rec .ready none with state:= .busy}):=World.putObj_heap_same (Array.getElem?_eq_some_iff.1 hl2).1
   have hm3:∀D,D∈Ds->(W2.putObj l (.loop {rec .ready none with state:= .busy})).heap[D]? =some (.deferred (some [])):=fun D hD=>(World.putObj_heap_other (hDs D hD).2.1).trans (hm2 D hD)
   obtain ⟨c1,c2⟩:=s2.rel.calm hc2 (.inr fun r o e h=>by cases e;rw[hl2]at h;cases h;rfl)
   have e23:Evo ν F w σ.H ν2 F2 (W2.putObj l (.loop {rec .ready none with state:= .busy})) σ2.H:=(r5.trans e2).calm c2 hc2
   have s3:RS σ2 ν2 F2 a2 (W2.putObj l (.loop {rec .ready none with state:= .busy})) nt q:=⟨s2.pin,fun t=>(s2.vals t).keep c2 (zl.refl _),c1,by
    obtain ⟨Do,d1,d2,d3⟩:=s2.defers
    exact ⟨Do,d1,d2,fun D hD=>by
     have h4:=d3 D hD
     by_cases e:l=D
     ·subst e;rw[hl2]at h4;cases h4
     ·exact (World.putObj_heap_other fun h=>e h.symm).trans h4⟩,s2.free,s2.size,s2.fresh⟩
   refine wpIn_mono (hbody (some l) ν2 F2 a2 _ s3 (fun l' e=>by cases e;exact ⟨_,hl3⟩)) ?_
   rintro e a4 W4 ⟨σ4,ν4,F4,q4,s4,e4,p4⟩
   have hl4:=e4.notMine c1 hl3 rfl
   have hm4:∀D,D∈Ds->W4.heap[D]? =some (.deferred (some [])):=fun D hD=>e4.notMine c1 (hm3 D hD) rfl
   have hp4:∀i,i<q->ν4 i=ν i:=fun i hi=>(p4.pin i hi).trans ((p2.pin i hi).trans (r6 i hi))
   have hM4:∀r,M r->W4.heap[r]? =W.heap[r]? :=fun r hr=>by
    obtain ⟨x1,x2,x3,x4⟩:=r7 r hr
    rw[e4.frame r (by rw[show (W2.putObj l _).heap.size=W2.heap.size by simp[World.putObj]];exact Nat.lt_of_lt_of_le x2 e2.size) fun h=> ?_,World.putObj_heap_other fun e=>(hML r hr).1 e,e2.frame r x2 x3]
    rcases e2.mine r h with h|h
    ·exact x3 h
    ·omega
   have hap:∀r,M r->w.heap.size<=r/\r<W4.heap.size/\¬jf ν4 σ4.H r/\∀o,¬F4 r o:=fun r hr=>by
    obtain ⟨x1,x2,x3,x4⟩:=r7 r hr
    have y1:¬jf ν2 σ2.H r:=fun h=>by
     rcases e2.mine r h with h|h
     ·exact x3 h
     ·omega
    have y2:∀o,¬F2 r o:=fun o h=>by
     rcases e2.fz r o h with h|h|h
     ·exact x4 o h
     ·exact x3 h
     ·omega
    have hs2:∀o',(W2.putObj l o').heap.size=W2.heap.size:=fun o'=>by simp[World.putObj]
    have hsz2:=e2.size
    refine ⟨x1,?_,fun h=> ?_,fun o h=> ?_⟩
    ·have:=e4.size;rw[hs2]at this;omega
    ·rcases e4.mine r h with h|h
     ·exact y1 h
     ·rw[hs2]at h;omega
    ·rcases e4.fz r o h with h|h|h
     ·exact y2 o h
     ·exact y1 h
     ·rw[hs2]at h;omega
   have hb4:BLM q ν F w σ.H σ4 M W4 ν4 F4:=⟨s4.rel,s4.free,s4.fresh,s4.pin,e23.trans e4,hp4,hap⟩
   have hkeep:Keep F W F W4:=by
    have k:=(e2.keep.trans c2).trans e4.keep
    exact ⟨fun _ _ h=>h,fun b o hb=>k.same b o (r5.keep.sub b o hb),fun b o hb=>k.sz b o (r5.keep.sub b o hb)⟩
   have fin:∀(jump:Option Code),(Instr.endRound l jump).run P W4= .ok (.bool jump.isNone) (W4.putObj l (.loop (rec (if jump.isNone then .ready else .done) jump)))∧
    (W4.putObj l (.loop (rec (if jump.isNone then .ready else .done) jump))).heap[l]? =some (.loop (rec (if jump.isNone then .ready else .done) jump))∧
    (∀D,D∈Ds->(W4.putObj l (.loop (rec (if jump.isNone then .ready else .done) jump))).heap[D]? =some (.deferred (some [])))∧
    KeepM F M W (W4.putObj l (.loop (rec (if jump.isNone then .ready else .done) jump))):=fun jump=>by
    have:=run_endRound (P:=P) jump hl4
    rw[hrec]at this⊢
    refine ⟨this,World.putObj_heap_same (Array.getElem?_eq_some_iff.1 hl4).1,fun D hD=>(World.putObj_heap_other (hDs D hD).2.1).trans (hm4 D hD),hkeep.trans ?_,fun r hr=>(World.putObj_heap_other fun e=>(hML r hr).1 e).trans (hM4 r hr),?_⟩
    ·obtain ⟨z1,z2⟩:=s4.rel.notDull hl4 rfl
     have hne:∀b o,F b o->b≠l:=fun b o hb e=>z2 o (e▸e4.keep.sub b o (e2.keep.sub b o (r5.keep.sub b o hb)))
     exact ⟨fun _ _ h=>h,fun b o hb=>by simp only[World.cell?,World.putObj_heap_other (hne b o hb)],fun b o hb=>Zj (World.putObj_heap_other (hne b o hb))⟩
    ·have hs2:∀(V:World) o',(V.putObj l o').heap.size=V.heap.size:=fun V o'=>by simp[World.putObj]
     have h2:=e2.size
     have h4:=e4.size
     rw[hs2]at h4⊢
     omega
   cases e with
   |normal=>
    obtain ⟨hIx,ρ,hw⟩:=q4
    obtain ⟨f1,f2,f3,f4⟩:=fin none
    have s5:RS ⟨[],σ4.hp,σ4.next⟩ ν4 F4 a4 W4 nt q:=⟨s4.pin,fun t=> .junk _,s4.rel,s4.defers,s4.free,s4.size,s4.fresh⟩
    obtain ⟨ν5,s6,e6,p6⟩:=hw.rs s5
    have hb5:BLM q ν F w σ.H ⟨[],inv (pre++ [x]),σ.next⟩ M W4 ν5 F4:=⟨s6.rel,s6.free,s6.fresh,s6.pin,(e23.trans e4).trans e6,fun i hi=>(p6.pin i hi).trans (hp4 i hi),fun r hr=>by
     obtain ⟨x1,x2,x3,x4⟩:=hap r hr
     refine ⟨x1,x2,fun h=> ?_,x4⟩
     rcases e6.mine r h with h|h
     ·exact x3 h
     ·omega⟩
    exact ⟨_,_,f1,true,rfl,⟨hML,f3,hIx,⟨ν5,F4,hb5.put hl4 rfl hwl⟩,f2⟩,f4⟩
   |ret=>
    obtain ⟨f1,f2,f3,f4⟩:=fin (some .ret)
    exact ⟨_,_,f1,false,rfl,⟨hML,f3,.ret,.ret,σ4,rfl,q4,⟨ν4,F4,hb4.put hl4 rfl hwl⟩,f2⟩,f4⟩
   |exit id=>
    obtain ⟨f1,f2,f3,f4⟩:=fin (some (.exit id))
    exact ⟨_,_,f1,false,rfl,⟨hML,f3,.exit id,.exit id,σ4,rfl,q4,⟨ν4,F4,hb4.put hl4 rfl hwl⟩,f2⟩,f4⟩
   |goto t=>
    obtain ⟨f1,f2,f3,f4⟩:=fin (some (.goto t))
    exact ⟨_,_,f1,false,rfl,⟨hML,f3,.goto t,.goto t,σ4,rfl,q4,⟨ν4,F4,hb4.put hl4 rfl hwl⟩,f2⟩,f4⟩
   |panic ch=>exact q4.elim
   |outgrown=>exact q4.elim
  have hkW1:Keep F w F W1:=⟨fun _ _ h=>h,fun b o hb=>by simp only[World.cell?,hgr.block b (hr.rel.old_lt hb) (by simp)],fun b o hb=>Zj (hgr.block b (hr.rel.old_lt hb) (by simp))⟩
  have H:=hiter C W1 lb rfl rfl (hr.rel.glob.keep hkW1) (fun b o hb=>by rw[hkW1.same b o hb];exact hr.rel.old b o hb) ⟨hcs.1,fun j g u a b=>(hcs.2 j g u a b).keep hkW1 (fun i p hi=>by cases hi)⟩ hJ0
  ·refine VL ((callsIn_wide (n:=1)).1 (CallsIn.mono H ?_))
   have fin:∀(c:Option Code) (st:LoopState) (W:World) (e:Exit) (σ':St),st≠ .busy->W.heap[l]? =some (.loop (rec st c))->(∃M ν1 F1,BLM q ν F w σ.H σ' M W ν1 F1)->Q e ⟨σ.tmps,σ'.hp,σ'.next⟩->(∀D,D∈Ds->W.heap[D]? =some (.deferred (some [])))→
    ∃W',(Instr.endLoop l).run P W= .ok c W'/\qk nt p ν F a.defers w σ.H Q e {a with defers:=Ds.map (fun D=> {target:= .collected D,args:= #[]})++a.defers} W':=fun c st W e σ' hst hl hb hq hm=>by
    have hend:(Instr.endLoop l).run P W= .ok c (W.putObj l (.loop {rec st c with state:= .exhausted})):=by
     have:=run_endLoop (P:=P) hl (by rw[hrec];exact hst)
     rw[hrec]at this⊢
     exact this
    refine ⟨_,hend,?_⟩
    have hm':∀D,D∈Ds->(W.putObj l (.loop {rec st c with state:= .exhausted})).heap[D]? =some (.deferred (some [])):=fun D hD=>(World.putObj_heap_other (hDs D hD).2.1).trans (hm D hD)
    obtain ⟨M,ν1,F1,hb⟩:=hb
    obtain ⟨r1,r2,r3,r4,r5,r6,_⟩:=hb.put (o':= .loop {rec st c with state:= .exhausted}) hl rfl hwl
    refine ⟨⟨σ.tmps,σ'.hp,σ'.next⟩,ν1,F1,hq,⟨Nat.le_trans hpq r4,hvals r5.keep r6,r1,?_,r2,hr.size,r3⟩,r5,⟨fun i hi=>r6 i (Nat.lt_of_lt_of_le hi hpq),Ds,rfl,fun D hD=>(hDs D hD).1⟩⟩
    obtain ⟨Do,d1,d2,d3⟩:=hr.defers.evo hr.rel r5
    refine ⟨Ds++Do,List.nodup_append.2 ⟨hnd,d1,fun x hx y hy e=> ?_⟩,by rw[d2];simp,fun D hD=> ?_⟩
    ·subst e
     obtain ⟨Do',k1,k2,k3⟩:=hr.defers
     have e2:Do=Do':=KV (f:=fun D:Nat=>({target:= .collected D,args:= #[]} :Deferred)) (fun x y hxy=>by injection hxy with a b;injection a) _ _ (d2.symm.trans k2)
     rw[e2]at hy
     have:=(Array.getElem?_eq_some_iff.1 (k3 x hy)).1
     have:=(hDs x hx).1
     omega
    ·rcases List.mem_append.1 hD with hD|hD
     ·exact hm' D hD
     ·exact d3 D hD
   rintro e W2 ⟨⟨v,rfl⟩,(⟨M,_,hm,hIx,⟨ν1,F1,hb⟩,hl⟩|⟨pre,M,_,hm,c,e,σ',he,hq,⟨ν1,F1,hb⟩,hl⟩)⟩
   ·obtain ⟨W',x1,x2⟩:=fin none .ready W2 .normal ⟨[],inv xs,σ.next⟩ (by simp) hl ⟨M,ν1,F1,hb⟩ (hdone hIx) hm
    exact ⟨none,W',x1,x2⟩
   ·obtain ⟨W',x1,x2⟩:=fin (some c) .done W2 e σ' (by simp) hl ⟨M,ν1,F1,hb⟩ hq hm
    refine ⟨some c,W',x1,?_⟩
    cases e<;>simp only[zTr]at he<;>first|cases he|skip
    ·exact wpIn_exit x2
    ·exact wpIn_goto x2
    ·exact wpIn_ret x2
section
variable {P:Program} {nt p:Nat} {R:Exit->St->Prop} {c c':Code} {K K':List Kont} {σ:St}
theorem vn [Laid] {α:Type} (q n1:Nat) {gf:Nat} {caps:List G} (gs:α->List G) (xs:List α) (inv:List α->List (Nat×Option Blk)) (I:List α->Prop) {g:Operand} {ps:Array Tmp} {assign body ca cb:Code} {Ka Kb:List Kont} {tm:List (Nat×G)} {hp:List (Nat×Option Blk)} {n:Nat} {tm1:α->List (Nat×G)} {qs qs':List Prop}
 (hi:Xv P gf caps gs xs) (hI:I [])
 (hround:∀pre x rest,pre++x::rest=xs->I pre->GK P nt q (fun e σ1=>e= .normal/\GK P nt q (RQG q (I (pre++ [x])) tm ⟨[],inv (pre++ [x]),n1⟩ (kQ P nt p R K)) cb Kb σ1) ca Ka ⟨tm1 x,inv pre,n1⟩)
 (hdone:I xs->GK P nt p R c' K' ⟨tm,inv xs,n1⟩)
 (hw:JF p ⟨tm,hp,n⟩ ⟨tm,inv [],n1⟩=some qs:=by rfl) (hf:nfP qs=some qs':=by rfl)
 (hg:St.ev ⟨tm,inv [],n1⟩ g= .fn (.func gf) [] caps:=by rfl) (hcl:G.ltL 0 caps=true:=by rfl) (hgs:∀x,G.ltL 0 (gs x)=true:=by intro _;rfl) (hpl:ltA nt ps.toList=true:=by rfl) (hpq:p<=q:=by decide) (hqn:q<=n1:=by decide) (hlt:ltT q tm=true:=by rfl)
 (hT:∀x,VS ps.toList (gs x) tm=some (tm1 x):=by intro _;rfl)
 (na:nrm 1000 assign []=some (ca,Ka):=by rfl) (nb:nrm 1000 body []=some (cb,Kb):=by rfl) (nd:nrm 1000 .skip K=some (c',K'):=by rfl) (hps:zC qs':=by (try simp only[zC]);repeat' first|exact trivial|exact rfl|omega|apply And.intro):GK P nt p R (.rangeFunc g ps assign body) K ⟨tm,hp,n⟩:=by
 show GW P nt p (.rangeFunc g ps assign body) _ (kQ P nt p R K)
 obtain ⟨ρ,hρ⟩:=yF hw
 refine ZDt (⟨tm,inv [],n1⟩:St) ρ hρ (ZY hf▸hps) ?_
 refine zMr q gf caps gs xs inv I hI hg hcl hi hgs (fun t ht=>zRb hpl t ht) hpq hqn hlt rfl tm1 hT (fun pre x rest hx hp=> ?_) (fun h=>(zp nd (hdone h):GK P nt p R .skip K _))
 refine Ko (zp na (hround pre x rest hx hp)).gw fun e σ1 ⟨h1,h2⟩=>⟨h1,?_⟩
 exact (zp nb h2).gw
theorem um [Laid] {q:Nat} {I':Prop} {tm tm':List (Nat×G)} {hp' hp1:List (Nat×Option Blk)} {n' n1:Nat} {Q:Exit->St->Prop} {qs qs':List Prop} (hI:I') (hw:zOh q hp' n' hp1 n1=some qs:=by rfl) (hf:nfP qs=some qs':=by rfl) (hps:zC qs':=by (try simp only[zC]);repeat' first|exact trivial|exact rfl|omega|apply And.intro):
 GK P nt p (RQG q I' tm ⟨[],hp1,n1⟩ Q) .skip [] ⟨tm',hp',n'⟩:=by
 obtain ⟨ρ,hρ⟩:=HN hw
 exact ⟨hI,ρ,zo hρ (ZY hf▸hps)⟩
theorem zMu [Laid] {q p0:Nat} {I':Prop} {R0:Exit->St->Prop} {K0 K1:List Kont} {tm tm':List (Nat×G)} {hp':List (Nat×Option Blk)} {n':Nat} {τ:St} (h:GK P nt p0 R0 .ret [] ⟨tm,hp',n'⟩):
 GK P nt p (RQG q I' tm τ (kQ P nt p0 R0 K0)) .ret K1 ⟨tm',hp',n'⟩:=Jk K1 (Jk K0 (h:R0 .ret _))
theorem zSl [Laid] {q p0:Nat} {I':Prop} {R0:Exit->St->Prop} {K0 K1:List Kont} {c1:Code} {id:Nat} {tm tm':List (Nat×G)} {hp':List (Nat×Option Blk)} {n':Nat} {τ:St} (h:GK P nt p0 R0 c1 K1 ⟨tm,hp',n'⟩) (hn:nrm 1000 (.exit id) K0=some (c1,K1):=by rfl):
 GK P nt p (RQG q I' tm τ (kQ P nt p0 R0 K0)) (.exit id) [] ⟨tm',hp',n'⟩:=(zp hn h:GK P nt p0 R0 (.exit id) K0 ⟨tm,hp',n'⟩)
end
end Go.Gh
namespace Go.Gh
open Go Go.RowKit
set_option linter.unusedVariables false
set_option linter.unusedSectionVars false
inductive YK (α:Type):Type 1
 |seq (c:Code)
 |block (id:Nat)
 |goal (T:St->Bool×List α->Prop)
section
variable [Laid] {P:Program} {α:Type} (C:YC P α) (nt:Nat) (R:Exit->St->Bool×List α->Prop)
def yQ:List (YK α)->Exit->St->Bool×List α->Prop
 | []=>R
 | .seq y::K=>zHn (fun σ φ=>GY C nt y σ φ (yQ K)) (yQ K)
 | .block id::K=>zGm id (yQ K)
 | .goal T::K=>zHn T (yQ K)
def GYK (c:Code) (K:List (YK α)) (σ:St) (φ:Bool×List α):Prop:=
 match c with
 | .skip=>yQ C nt R K .normal σ φ
 | .exit id=>yQ C nt R K (.exit id) σ φ
 | .ret=>yQ C nt R K .ret σ φ
 |c=>GY C nt c σ φ (yQ C nt R K)
end
section
variable [Laid] {P:Program} {α:Type} {C:YC P α} {nt:Nat} {R:Exit->St->Bool×List α->Prop} {c c':Code} {K K':List (YK α)} {σ:St} {φ:Bool×List α}
theorem GYK.gy (h:GYK C nt R c K σ φ):GY C nt c σ φ (yQ C nt R K):=by
 cases c<;>first|exact zYk h|exact zYm h|exact ZDq h|exact h
def JN:Nat->Code->List (YK α)->Option (Code×List (YK α))
 |0,_,_=>none
 |n+1,.seq x y,K=>JN n x (.seq y::K)
 |n+1,.block id c,K=>JN n c (.block id::K)
 |n+1,.label _,K=>JN n .skip K
 |n+1,.skip,.seq y::K=>JN n y K
 |n+1,.skip,.block _::K=>JN n .skip K
 |n+1,.exit id,.seq _::K=>JN n (.exit id) K
 |n+1,.exit id,.goal _::K=>JN n (.exit id) K
 |n+1,.exit id,.block j::K=>bif Nat.beq id j then JN n .skip K else JN n (.exit id) K
 |_+1,c,K=>some (c,K)
theorem yZ:∀ {n:Nat} {c:Code} {K:List (YK α)},JN n c K=some (c',K')->GYK C nt R c' K' σ φ->GYK C nt R c K σ φ:=by
 intro n
 induction n with
 |zero=>intro c K h;cases h
 |succ n ih=>
  intro c K h hk
  unfold JN at h
  split at h
  ·rename_i e;cases e
  ·rename_i e;cases e;exact ZDp (ih h hk).gy
  ·rename_i e;cases e;exact zSb (ih h hk).gy
  ·rename_i e;cases e;exact zSa (ih h hk)
  ·rename_i e;cases e;exact (ih h hk).gy
  ·rename_i e;cases e;exact (ih h hk:GYK C nt R .skip _ σ φ)
  ·rename_i id y K1 e;cases e;exact (ih h hk:GYK C nt R (.exit id) K1 σ φ)
  ·rename_i id y K1 e;cases e;exact (ih h hk:GYK C nt R (.exit id) K1 σ φ)
  ·rename_i id j K1 e
   cases e
   show (if id=j then yQ C nt R K1 .normal σ φ else yQ C nt R K1 (.exit id) σ φ)
   cases hb:Nat.beq id j with
   |true=>
    rw[hb]at h
    rw[if_pos (Nat.eq_of_beq_eq_true hb)]
    exact (ih h hk:GYK C nt R .skip K1 σ φ)
   |false=>
    rw[hb]at h
    rw[if_neg (fun e=>by rw[e,Nat.beq_refl]at hb;cases hb)]
    exact (ih h hk:GYK C nt R (.exit id) K1 σ φ)
  ·cases h;exact hk
theorem ZBc {σ:St} {φ:Bool×List α} :∀(K:List (YK α)),R .ret σ φ->yQ C nt R K .ret σ φ:=by
 intro K
 induction K with
 |nil=>exact id
 |cons k K ih=>intro h;cases k<;>exact ih h
theorem ze {T:Tab} (env:Env P T) (wr:Bool) (hs:List (Hint P)) (kp:List Nat) {id:Nat} {ops:Array Oper} {draw:Bool} {tm tm' tm1:List (Nat×G)} {h0 h1 h2:List (Nat×Option Blk)} {n n1:Nat} {feet:List Foot} {pr pr':List Prop} {hs':List (Hint P)}
 (hq:GYK C nt R c' K' ⟨tm',h2,n1⟩ φ) (h:jl P wr T nt ops ops.toList tm h0 n [] hs=some (pr,⟨tm1,h1,n1⟩,feet,hs'):=by rfl) (hok:Wb ops nt draw feet=true:=by kernel_rfl) (hk:QP tm1 kp=some tm':=by rfl) (hh:nfH [] h1=some h2:=by rfl) (hn:JN 1000 .skip K=some (c',K'):=by rfl) (hf:nfP pr=some pr':=by rfl)
 (hp:zC pr':=by first|trivial|(simp only[zC,bb,toN];repeat' first|exact trivial|exact zH.refl _|exact zE.refl _|exact rfl|omega|apply And.intro|intro _|exact QI (by simp_all;done))):GYK C nt R (.region id ops draw) K ⟨tm,h0,n⟩ φ:=
 gy_gw (Q':=fun e σ'=>e= .normal/\σ'=⟨tm',h2,n1⟩) (zIv (uk env wr hs h hok (ZY hf▸hp) ⟨rfl,rfl⟩) hk hh ⟨rfl,rfl⟩) fun e σ' h=>by obtain ⟨rfl,rfl⟩:=h;exact (yZ hn hq:GYK C nt R .skip K _ φ)
theorem Ur {x y x' y':Code} {K1 K2:List (YK α)} {o:Operand} {b:Bool} (h1:b=true->GYK C nt R x' K1 σ φ) (h2:b=false->GYK C nt R y' K2 σ φ) (hc:σ.ev o= .d (.sc (.bool b)):=by rfl) (n1:JN 1000 x K=some (x',K1):=by rfl) (n2:JN 1000 y K=some (y',K2):=by rfl):GYK C nt R (.cond o x y) K σ φ:=
 zYn hc (fun e=>(yZ n1 (h1 e)).gy) (fun e=>(yZ n2 (h2 e)).gy)
theorem Vm {x y x' y':Code} {K1 K2:List (YK α)} {o:Operand} {q:Prop} {inst:Decidable q} (h1:q->GYK C nt R x' K1 σ φ) (h2:¬q->GYK C nt R y' K2 σ φ) (hc:σ.ev o= .d (.sc (.bool (@decide q inst))):=by rfl) (n1:JN 1000 x K=some (x',K1):=by rfl) (n2:JN 1000 y K=some (y',K2):=by rfl):GYK C nt R (.cond o x y) K σ φ:=
 Ur (fun h=>h1 (of_decide_eq_true h)) (fun h=>h2 (of_decide_eq_false h)) hc n1 n2
def ToY (β:Type) (I:β->Prop) (inv:β->St) (ph:β->Bool×List α) (m:β->Nat) (x:β) (σ:St) (φ:Bool×List α):Prop:=∃x' ρ ps,ya 0 ρ σ (inv x')=some ps/\I x'/\m x'<m x/\φ=ph x'/\zC ps
theorem jG {β:Type} {I:β->Prop} {inv:β->St} {ph:β->Bool×List α} {m:β->Nat} {x:β} (x':β) {ps ps':List Prop} (hI:I x') (hph:φ=ph x':=by rfl) (h:JF 0 σ (inv x')=some ps:=by rfl) (hf:nfP ps=some ps':=by rfl) (hm:m x'<m x:=by omega) (hp:zC ps':=by (try simp only[zC]);repeat' first|exact trivial|exact rfl|omega|apply And.intro):GYK C nt R .skip (.goal (ToY β I inv ph m x)::K) σ φ:=
 (yF h).elim fun ρ h=>⟨x',ρ,ps,h,hI,hm,hph,ZY hf▸hp⟩
theorem Xw {β:Type} (I:β->Prop) (ch:β->List (Nat×G)) (chH:β->List (Nat×Option Blk)) (ph:β->Bool×List α) (m:β->Nat) (a0:β) {inv:β->St} {ps ps':List Prop} {K1:β->List (YK α)} (hI:I a0) (h:∀x,I x->GYK C nt R c' (K1 x) (inv x) (ph x)) (hph:φ=ph a0:=by rfl) (hi:∀x,σ.over (ch x) (chH x)=some (inv x):=by exact fun _=>rfl) (h0:JF 0 σ (inv a0)=some ps:=by rfl) (hf:nfP ps=some ps':=by rfl) (hn:∀x,JN 1000 c (.goal (ToY β I inv ph m x)::K)=some (c',K1 x):=by exact fun _=>rfl)
 (hp:zC ps':=by (try simp only[zC]);repeat' first|exact trivial|exact rfl|omega|apply And.intro):GYK C nt R (.loop c) K σ φ:=
 (yF h0).elim fun ρ h0=>zMo (β:=ULift {x:β//I x}) (fun x=>inv x.down.1) (fun x=>ph x.down.1) (fun x=>m x.down.1) ⟨a0,hI⟩ hph (fun ν F a w hr=>(zo h0 (ZY hf▸hp)).rs hr) fun x=>zYl (yZ (hn x.down.1) (h x.down.1 x.down.2)).gy fun e σ' φ' hq=>by
  cases e with
  |normal=>
   obtain ⟨x',ρ',qs,h1,h2,h3,h4,h5⟩:=hq
   exact ⟨⟨x',h2⟩,h3,h4,fun ν F a w hr=>(zo h1 h5).rs hr⟩
  |_=>exact hq
theorem zDb {xs:List α} (h:φ=(true,xs)∨φ.1=false):GYK C nt (zOb xs) .ret K σ φ:=ZBc K ⟨.inr rfl,h⟩
theorem vM {xs:List α} (h:φ=(true,xs)∨φ.1=false):GYK C nt (zOb xs) .skip [] σ φ:=⟨.inl rfl,h⟩
theorem wp {id:Nat} {ops:Array Oper} (h:GYO C nt ops 0 σ φ (yQ C nt R K)):GYK C nt R (.region id ops false) K σ φ:=zMn h
theorem Yh {T:Tab} (env:Env P T) (wr:Bool) (m:Nat) (hs:List (Hint P)) {ops:Array Oper} {k:Nat} {tm tm1:List (Nat×G)} {h0 h1:List (Nat×Option Blk)} {n n1:Nat} {feet:List Foot} {pr pr':List Prop} {hs':List (Hint P)} {Q:Exit->St->Bool×List α->Prop}
 (hq:GYO C nt ops (k+m) ⟨tm1,h1,n1⟩ φ Q) (h:jl P wr T nt ops ((ops.toList.drop k).take m) tm h0 n [] hs=some (pr,⟨tm1,h1,n1⟩,feet,hs'):=by rfl) (hg:zt ops nt=true:=by kernel_rfl) (hm:Nat.ble (k+m) ops.size=true:=by kernel_rfl) (hf:nfP pr=some pr':=by rfl)
 (hp:zC pr':=by first|trivial|(simp only[zC,bb,toN];repeat' first|exact trivial|exact zH.refl _|exact zE.refl _|exact rfl|omega|apply And.intro|intro _|exact QI (by simp_all;done))):GYO C nt ops k ⟨tm,h0,n⟩ φ Q:=
 zYi hg hm (qE env.ty _ _ _ _ _ _ _ h (ZY hf▸hp) hq)
theorem wo (kp:List Nat) {ops:Array Oper} {k:Nat} {tm tm':List (Nat×G)} {h1 h2:List (Nat×Option Blk)} {n:Nat} (hq:GYK C nt R c' K' ⟨tm',h2,n⟩ φ) (hk:Nat.beq ops.size k=true:=by kernel_rfl) (hkp:QP tm kp=some tm':=by rfl) (hh:nfH [] h1=some h2:=by rfl) (hn:JN 1000 .skip K=some (c',K'):=by rfl):GYO C nt ops k ⟨tm,h1,n⟩ φ (yQ C nt R K):=fun M ν F a w hy=>by
 have hy':YI C ⟨tm',h2,n⟩ φ M ν F a w nt:=by
  have e:St.H ⟨tm',h2,n⟩=St.H ⟨tm,h1,n⟩:=Je hh
  exact ⟨⟨hy.rs.pin,fun t=>wH (hy.rs.vals t) kp tm' hkp,e▸hy.rs.rel,hy.rs.defers,hy.rs.free,hy.rs.size,e▸hy.rs.fresh⟩,e▸hy.mine,hy.fz,hy.sub,hy.marks,hy.j⟩
 exact zYj (C:=C) hk (yZ hn hq:GYK C nt R .skip K _ φ) M ν F a w hy'
theorem JS {ops:Array Oper} {k:Nat} {f:Operand} {args:Array Operand} {tys:Array TypeId} {o:Oper} {d:Nat} {qs:List Prop} (x:α) (rest:List α) {pre:List α} {tm:List (Nat×G)} {hp:List (Nat×Option Blk)} {n:Nat} {Q:Exit->St->Bool×List α->Prop} {gx:List G}
 (hlen:pre++x::rest=C.xs) (hgs:C.gs x=gx) (h:∀b:Bool,GYO C nt ops (k+1) ⟨(d,.d (.sc (.bool b)))::tm,hp,n⟩ (b,pre++ [x]) Q)
 (ho:ops[k]? =some o:=by rfl) (hop:o.op= .call {callee:= .value f,args:=args,argTypes:=tys} :=by rfl)
 (hgx:VU ⟨tm,hp,n⟩ args.toList=some gx:=by rfl) (hpl:G.plain.plainL gx=true:=by rfl) (hd:o.dst=some d:=by rfl) (hdn:Nat.blt d nt=true:=by rfl) (hg:zt ops nt=true:=by kernel_rfl)
 (hw:YM ops ⟨tm,hp,n⟩ o=some true:=by rfl) (hf:opA ⟨tm,hp,n⟩ f= .fn (.yield C.l) [] []:=by rfl) (hst:zDo true ⟨tm,hp,n⟩ (f::args.toList)=some qs:=by rfl) (hqs:zC qs:=by simp[zC]):GYO C nt ops k ⟨tm,hp,n⟩ (true,pre) Q:=
 zMm x rest h hlen (hgs▸hgx) (hgs▸hpl) ho hop hd hdn hg hw hf hst hqs
end
end Go.Gh
namespace Go.Gh
open Go Go.RowKit
open Go.ChangeMaps (setBlock)
set_option linter.unusedVariables false
set_option linter.unusedSectionVars false
def kv (x:MapEntry):Value×Value:=(x.key,x.val)
theorem zMe:∀(l:List MapEntry) (e:MapEntry),(l.map (·.born)).Nodup->e∈l->l.Perm (e::l.filter fun x=> !(x.born==e.born)):=by
 intro l
 induction l with
 |nil=>intro e _ h;cases h
 |cons a l ih=>
  intro e hn he
  simp only[List.map_cons,List.nodup_cons]at hn
  rcases List.mem_cons.1 he with rfl|he
  ·have:(e::l).filter (fun x=> !(x.born==e.born))=l:=by
    rw[List.filter_cons_of_neg (by simp)]
    refine List.filter_eq_self.2 fun x hx=> ?_
    simp only[Bool.not_eq_true',beq_eq_false_iff_ne]
    intro h
    exact hn.1 (List.mem_map.2 ⟨x,hx,h⟩)
   rw[this]
  ·have hne:a.born≠e.born:=fun h=>hn.1 (h▸List.mem_map.2 ⟨e,he,rfl⟩)
   rw[List.filter_cons_of_pos (by simpa using hne)]
   exact ((ih e hn.2 he).cons a).trans (List.Perm.swap e a _)
def ItF (w:World) (r rm:Nat) (L done:List (Value×Value)):Prop:=
 ∃(es:Array MapEntry) (clock c0:Nat) (dl:List MapEntry),w.heap[r]? =some (.mapIter (some rm) clock (dl.map (·.born)).toArray c0)/\clock<=c0/\w.heap[rm]? =some (.map es clock)/\es.toList.map kv=L/\ZEy es clock/\dl.map kv=done∧
  (dl++(leftOf es (dl.map (·.born)).toArray).toList).Perm es.toList
theorem zAv (es:Array MapEntry) (seen:Array Nat) (b:Nat):(leftOf es (seen.push b)).toList=(leftOf es seen).toList.filter fun x=> !(x.born==b):=by
 unfold leftOf
 rw[Array.toList_filter,Array.toList_filter,List.filter_filter]
 congr 1
 funext x
 rw[contains_push]
 cases seen.contains x.born<;>simp
theorem ItF.next {P:Program} {w:World} {r rm:Nat} {L done:List (Value×Value)} (h:ItF w r rm L done) (ty:TypeId):
 (done.Perm L/\(Instr.next (.pointer (some ⟨r,0,none⟩)) false ty).run P w= .ok (.tuple #[.bool false]) w)∨
 ∃k v rest w1 o,(done++(k,v)::rest).Perm L/\(w1=w∨w1=w.drew)/\(Instr.next (.pointer (some ⟨r,0,none⟩)) false ty).run P w= .ok (.tuple #[.bool true,k,v]) (w1.putObj r o)/\ItF (w1.putObj r o) r rm L (done++ [(k,v)])∧
  ∀w2,w2.heap[r]? =(w1.putObj r o).heap[r]? ->w2.heap[rm]? =(w1.putObj r o).heap[rm]? ->(Instr.entry (.pointer (some ⟨r,0,none⟩))).run P w2= .ok (.tuple #[k,v]) w2:=by
 obtain ⟨es,clock,c0,dl,h1,h2,h3,h4,h5,h6,h7⟩:=h
 have hrm:r≠rm:=fun e=>by subst e;rw[h1]at h3;cases h3
 rcases run_next_at (P:=P) w ty r rm clock c0 _ es clock h1 h3 (fun x hx=>h5.2 x hx) h2 with ⟨e0,e1⟩|⟨e,he,w1,hw1,hrun⟩
 ·refine .inl ⟨?_,e1⟩
  have:(leftOf es (dl.map (·.born)).toArray).toList= []:=by
   rw[Array.eq_empty_of_size_eq_zero e0]
  rw[this,List.append_nil]at h7
  rw[<-h4,<-h6];exact h7.map kv
 ·have hlt:r<w1.heap.size:=by
   have:=(Array.getElem?_eq_some_iff.1 h1).1
   rcases hw1 with rfl|rfl<;>exact this
  have hrm1:w1.heap[rm]? =some (.map es clock):=by rcases hw1 with rfl|rfl<;>exact h3
  obtain ⟨hb1,hb2⟩:=mem_left he
  have hnl:((leftOf es (dl.map (·.born)).toArray).toList.map (·.born)).Nodup:=by
   have:(leftOf es (dl.map (·.born)).toArray).toList.Sublist es.toList:=by unfold leftOf;rw[Array.toList_filter];exact List.filter_sublist
   exact (this.map _).nodup h5.1
  have hp:=zMe _ e hnl he
  have hperm:((dl++ [e])++(leftOf es ((dl.map (·.born)).toArray.push e.born)).toList).Perm es.toList:=by
   rw[zAv,List.append_assoc]
   exact (List.Perm.append_left dl hp.symm).trans h7
  have hseen:((dl++ [e]).map (·.born)).toArray=(dl.map (·.born)).toArray.push e.born:=by simp
  have hr2:(w1.putObj r (.mapIter (some rm) clock ((dl.map (·.born)).toArray.push e.born) clock)).heap[r]? =some (.mapIter (some rm) clock ((dl.map (·.born)).toArray.push e.born) clock):=World.putObj_heap_same hlt
  have hrm2:(w1.putObj r (.mapIter (some rm) clock ((dl.map (·.born)).toArray.push e.born) clock)).heap[rm]? =some (.map es clock):=(World.putObj_heap_other fun e=>hrm e.symm).trans hrm1
  refine .inr ⟨e.key,e.val,((leftOf es ((dl.map (·.born)).toArray.push e.born)).toList).map kv,w1,_,?_,hw1,hrun,⟨es,clock,clock,dl++ [e],by rw[hseen];exact hr2,Nat.le_refl _,hrm2,h4,h5,by rw[List.map_append,h6];rfl,by rw[hseen];exact hperm⟩,fun w2 g1 g2=> ?_⟩
  ·have:=hperm.map kv
   rw[List.map_append,List.map_append,h6,h4]at this
   simpa [kv]using this
  ·exact run_entry_at w2 r rm clock _ es clock e (g1.trans hr2) (g2.trans hrm2) hb1 h5.1
theorem ItF.keep {w w':World} {r rm:Nat} {L done:List (Value×Value)} (h:ItF w r rm L done) (h1:w'.heap[r]? =w.heap[r]?) (h2:w'.heap[rm]? =w.heap[rm]?):ItF w' r rm L done:=by
 obtain ⟨es,clock,c0,dl,a,b,c,d⟩:=h
 exact ⟨es,clock,c0,dl,h1.trans a,b,h2.trans c,d⟩
section
variable [Laid] {P:Program} {T:Tab} {nt p:Nat}
def GWO (P:Program) (nt p:Nat) (ops:Array Oper) (k:Nat) (σ:St) (Q:Exit->St->Prop):Prop:=
 ∀(ro:Option Nat) (ν0:Nu) (F0:Fz) (w0:World) (H0:Hp) (l0:List Deferred) (ν:Nu) (F:Fz) (a:Act) (w:World),RS σ ν F a w nt p->JM ro w->Evo ν0 F0 w0 H0 ν F w σ.H->Pin p ν0 ν l0 a.defers w0.heap.size→
  wpOpsIn (rnd ro) 0 P ops (qk nt p ν0 F0 l0 w0 H0 Q) (List.range' k (ops.size-k)) a w
theorem Xx {F:Fence} {n:Nat} {ops:Array Oper} {Q:Exit->Act->World->Prop} {i:Nat} {rest:List Nat} {o:Oper} {a:Act} {w w':World} {v:Value} (ho:ops[i]? =some o) (hg:o.guard=none) (hc:∀c,o.op≠ .call c) (hd:∀c,o.op≠ .defer c) (hrun:(execOp a.eval o).run P w= .ok (.value v) w')
 (h:wpOpsIn F n P ops Q rest (a.put o.dst v) w'):wpOpsIn F n P ops Q (i::rest) a w:=by
 rw[wpOpsIn,ho]
 simp only[]
 rw[if_pos (by unfold Region.wanted;rw[hg])]
 refine ⟨fun f hf=> ?_,?_⟩
 ·unfold Oper.about at hf
  split at hf
  ·rename_i c hc';exact absurd hc' (hc c)
  ·cases hf
 ·rw[Oper.semAt_eq _ _ _ hd,hrun];exact h
theorem RS.put {σ:St} {ν:Nu} {F:Fz} {a:Act} {w:World} (hr:RS σ ν F a w nt p) {d:Nat} {o:Oper} (hd:o.dst=some d) (hdn:d<nt) {v:Value} {g:G} (hv:VR ν F w g v):RS ⟨(d,g)::σ.tmps,σ.hp,σ.next⟩ ν F (a.put o.dst v) w nt p:=by
 have hlt:d<a.tmps.size:=by rw[hr.size];exact hdn
 refine ⟨hr.pin,fun t=> ?_,hr.rel,by rw[hd];exact hr.defers,hr.free,by rw[hd];simp[Act.put];exact hr.size,hr.fresh⟩
 rw[hd]
 show VR ν F w (bif Nat.beq t d then g else zg σ.tmps t) _
 cases e:Nat.beq t d with
 |true=>rw[Nat.eq_of_beq_eq_true e];simp[Act.put,hlt];exact hv
 |false=>
  have hne:d≠t:=fun h=>by subst h;rw[Nat.beq_refl]at e;cases e
  show VR ν F w (σ.get t) _
  have:=hr.vals t
  simpa [Act.put,Array.getElem?_setIfInBounds_ne hne]using this
theorem RS.iter {σ:St} {ν ν0:Nu} {F F0:Fz} {a:Act} {w w0 w1:World} {H0:Hp} {r:Nat} {o o':Obj} (hr:RS σ ν F a w nt p) (he:Evo ν0 F0 w0 H0 ν F w σ.H) (hw:w1=w∨w1=w.drew) (h0:w0.heap.size<=r) (ho:w.heap[r]? =some o) (hd:vp o=true) (hnd:∀D,o≠ .deferred D):
 RS σ ν F a (w1.putObj r o') nt p/\Evo ν0 F0 w0 H0 ν F (w1.putObj r o') σ.H:=by
 have hr1:Rel ν F w1 σ.H:=by
  rcases hw with rfl|rfl
  ·exact hr.rel
  ·exact hr.rel.drew
 have hk1:Keep F w F w1:=by
  rcases hw with rfl|rfl
  ·exact Keep.refl _ _
  ·exact Keep.drew _ _
 have ho1:w1.heap[r]? =some o:=by rcases hw with rfl|rfl<;>exact ho
 have he1:Evo ν0 F0 w0 H0 ν F w1 σ.H:=by
  rcases hw with rfl|rfl
  ·exact he
  ·exact ⟨he.keep.trans (Keep.drew _ _),he.os,he.tape,he.output,he.size,he.frame,he.mine,he.fz⟩
 have hc:=VD (B:=w0.heap.size) (o':=o') h0 ho1 hd
 obtain ⟨c1,c2⟩:=hr1.calm hc (.inr fun r' o2 e h=>by cases e;rw[ho1]at h;cases h;exact hd)
 refine ⟨⟨hr.pin,fun t=>(hr.vals t).keep (hk1.trans c2) (zl.refl _),c1,?_,hr.free,hr.size,hr.fresh⟩,he1.calm c2 hc⟩
 obtain ⟨Do,d1,d2,d3⟩:=hr.defers
 refine ⟨Do,d1,d2,fun D hD=> ?_⟩
 have hne:D≠r:=fun e=>by
  have:=d3 D hD
  rw[e,ho]at this
  injection this with this
  exact hnd _ this
 rw[World.putObj_heap_other hne]
 have:w1.heap[D]? =w.heap[D]? :=by rcases hw with rfl|rfl<;>rfl
 rw[this];exact d3 D hD
def qd (r:Nat):Value:= .pointer (some ⟨r,0,none⟩)
def ud (ks:List Nat):List (Nat×G)->Bool
 | []=>true
 |(t,_)::l=> !(ks.any fun k=>Nat.beq t k)&&ud ks l
theorem zFl {ks:List Nat} {t:Nat} (ht:t∈ks):∀ {l:List (Nat×G)},ud ks l=true->zg l t= .junk:=by
 intro l
 induction l with
 |nil=>intro _;rfl
 |cons x l ih=>
  obtain ⟨k,g⟩:=x
  intro h
  simp only[ud,Bool.and_eq_true,Bool.not_eq_true']at h
  simp only[zg]
  cases e:Nat.beq t k with
  |true=>
   have:=Nat.eq_of_beq_eq_true e
   subst this
   have:=List.any_eq_false.1 h.1 t ht
   rw[Nat.beq_refl]at this
   exact absurd rfl this
  |false=>exact ih h.2
def ue (ρ:Nat->Nat) (b:Nat):List (Nat×Option Blk)->Bool
 | []=>true
 |(i,_)::l=> !Nat.beq (ρ i) b&&ue ρ b l
theorem zAz {ρ:Nat->Nat} {b:Nat} :∀ {l:List (Nat×Option Blk)},ue ρ b l=true->∀i,(look l zU i).isSome=true->ρ i≠b:=by
 intro l
 induction l with
 |nil=>intro _ i h;cases h
 |cons x l ih=>
  obtain ⟨k,ob⟩:=x
  intro h i hi e
  simp only[ue,Bool.and_eq_true,Bool.not_eq_true']at h
  simp only[look]at hi
  cases ek:Nat.beq i k with
  |true=>
   rw[Nat.eq_of_beq_eq_true ek]at e
   rw[e,Nat.beq_refl]at h
   exact absurd h.1 (by decide)
  |false=>rw[ek]at hi;exact ih h.2 i hi e
theorem zBj (env:Env P T) {α:Type} (b it d1 d2 de n2:Nat) (L:List (Value×Value)) (I:List (Value×Value)->α->Prop) (st:α->List (Nat×G)) (hps:α->List (Nat×Option Blk)) (x0:α)
 {id bid rid eid b1:Nat} {ops rops eops:Array Oper} {oR oN oX oE:Oper} {y:Code} {wr:Bool} {hs hs':List (Hint P)} {m:Nat} {tm tm1:List (Nat×G)} {h0 h1:List (Nat×Option Blk)} {n n1:Nat} {feet:List Foot} {pr:List Prop} {ρ:Nat->Nat} {ps:List Prop} {tR:TypeId} {xR:Operand} {eT:TyE} {kt et:TypeId} {Q:Exit->St->Prop}
 (hrun:jl P wr T nt ops (ops.toList.take m) tm h0 n [] hs=some (pr,⟨tm1,h1,n1⟩,feet,hs')) (hgo:zt ops nt=true) (hpr:zC pr) (hm:ops.size=m+1)
 (hw:ya p ρ ⟨tm1,h1,n1⟩ ⟨st x0,hps x0,n2⟩=some ps) (hps0:zC ps) (hI0:I [] x0) (hb:ue ρ b (hps x0)=true)
 (hR:ops[m]? =some oR) (hRop:oR.op= .range tR xR) (hRd:oR.dst=some it) (hRg:oR.guard=none) (hRx:(⟨tm1,h1,n1⟩:St).ev xR= .mp b) (hmap:look h1 zU b=some (.mp L)) (hte:zM T tR=some eT) (hmd:qr eT.desc=some (kt,et))
 (hN:rops.toList= [oN,oX]) (hNop:oN.op= .next (.tmp it) false) (hNd:oN.dst=some d1) (hNg:oN.guard=none) (hXop:oX.op= .extract (.tmp d1) 0) (hXd:oX.dst=some d2) (hXg:oX.guard=none)
 (hE:eops[0]? =some oE) (hEop:oE.op= .entry (.tmp it)) (hEd:oE.dst=some de) (hEg:oE.guard=none)
 (hlt:it<nt/\d1<nt/\d2<nt/\de<nt) (hne:it≠d1/\it≠d2/\d1≠d2) (hst:∀x,ud [it,d1,d2] (st x)=true) (hone:∀e,e∈L->e.1.oneCell'=true/\e.2.oneCell'=true)
 (hround:∀r done k v rest x,(done++(k,v)::rest).Perm L->I done x->GWO P nt p eops 1 ⟨(de,.tup [.d (.sc k),.d (.sc v)])::(it,.ex (qd r) .junk)::st x,hps x,n2⟩ (Exit.thenS (fun σ'=>GW P nt p y σ' fun e σ''=>e= .normal/\∃x' ρ qs,ya p ρ σ'' ⟨(it,.ex (qd r) .junk)::st x',hps x',n2⟩=some qs/\zC qs/\I (done++ [(k,v)]) x') fun e σ''=>e= .normal/\∃x' ρ qs,ya p ρ σ'' ⟨(it,.ex (qd r) .junk)::st x',hps x',n2⟩=some qs/\zC qs/\I (done++ [(k,v)]) x'))
 (hdone:∀done x,done.Perm L->I done x->Q .normal ⟨st x,hps x,n2⟩):
 GW P nt p (.seq (.region id ops false) (.block bid (.loop (.seq (.region rid rops false) (.seq (.cond (.tmp d2) .skip (.exit bid)) (.block b1 (.seq (.region eid eops false) y))))))) ⟨tm,h0,n⟩ Q:=by
 intro ro ν F a w hr hl
 refine wpIn_seq (wpIn_region ?_)
 have eR:List.range ops.size=List.range' 0 (ops.toList.take m).length++ [m]:=by
  rw[List.length_take,Array.length_toList,hm,Nat.min_eq_left (by omega),List.range_eq_range',List.range'_concat];simp
 rw[eR]
 refine YX (Q:=fun σ=>σ=⟨tm1,h1,n1⟩) hgo ?_ _ _ [] 0 ⟨ops.toList.drop m,by simp⟩ (qE env.ty _ _ _ _ _ _ _ hrun hpr rfl) ν F a w hr (Evo.refl _ _ _ _) (Pin.refl p _ a.defers _)
 rintro σ1 ν1 F1 a1 w1 rfl r1 e1 p1
 have hxR:=QS r1.rel.glob r1.vals xR
 rw[hRx]at hxR
 obtain ⟨rm,km,hνb,hval⟩:=hxR.mp_inv
 obtain ⟨rm',km',es,cl,g1,g2,g3,⟨g4,g4'⟩,g5⟩:=r1.rel.blk b _ hmap
 rw[hνb]at g1;injection g1 with g1;injection g1 with g1 g1';subst g1;subst g1'
 have hdd:eT.desc= .map kt et:=by
  unfold qr at hmd;split at hmd
  ·rename_i a b' he;cases hmd;exact he
  ·cases hmd
 have hu:P.underlying tR=some (.map kt et):=by rw[(env.ty _ _ hte).1,hdd]
 have hrng:=run_range_map (P:=P) w1 tR kt et rm es cl hu g2
 refine Xx hR hRg (fun c h=>by rw[hRop]at h;cases h) (fun c h=>by rw[hRop]at h;cases h) (v:=qd w1.heap.size) (w':=w1.alloc (.mapIter (some rm) cl #[] cl)) (by simp only[execOp,hRop,hval,Sem.run_bind,hrng,Result.andThen_ok,Sem.run_pure];rfl) ?_
 generalize hwi:w1.alloc (.mapIter (some rm) cl #[] cl)=wi
 have hbel:Below w1.heap.size w1 wi:=by rw[<-hwi];exact (Below.refl _ w1).alloc (Nat.le_refl _) _
 have hri:wi.heap[w1.heap.size]? =some (.mapIter (some rm) cl #[] cl):=by rw[<-hwi];exact World.alloc_heap_new w1 _
 generalize hrr:w1.heap.size=r at hri hbel
 have hgrown:w1.grownBy wi none:=by subst hrr;exact ⟨hbel.os,hbel.tape,hbel.output,hbel.size,fun k hk _=>hbel.block k hk⟩
 have hcalm:∀B,Calm B w1 wi none:=fun B=>⟨hgrown,fun r e=>by cases e⟩
 obtain ⟨c1,c2⟩:=r1.rel.calm (hcalm w.heap.size) (.inr fun r o e=>by cases e)
 have r3:RS ⟨tm1,h1,n1⟩ ν1 F1 a1 wi nt p:=⟨r1.pin,fun t=>(r1.vals t).keep c2 (zl.refl _),c1,by
  obtain ⟨Do,d1,d2,d3⟩:=r1.defers
  exact ⟨Do,d1,d2,fun D hD=>(hgrown.block D (Array.getElem?_eq_some_iff.1 (d3 D hD)).1 (by simp)).trans (d3 D hD)⟩,r1.free,r1.size,r1.fresh⟩
 have e13:=e1.calm c2 (hcalm w.heap.size)
 obtain ⟨ν2,r2,e2,p2,hdom⟩:=(zo hw hps0).rsN r3
 have r4:=r2.put hRd hlt.1 (v:=qd r) (g:= .ex (qd r) .junk) (.ex _ _ (.junk _))
 have e14:=e13.trans e2
 have p14:=p1.trans p2 (Nat.le_trans e1.size hgrown.size)
 have hlw:w.heap.size<=r:=by have:=e1.size;omega
 have hrmw:rm<r:=by have:=(Array.getElem?_eq_some_iff.1 g2).1;omega
 have hrmi:wi.heap[rm]? =some (.map es cl):=(hgrown.block rm (Array.getElem?_eq_some_iff.1 g2).1 (by simp)).trans g2
 have hnm:¬jf ν2 (St.H ⟨st x0,hps x0,n2⟩) rm:=fun ⟨i,k,hi,e⟩=>by
  obtain ⟨bl,hbl⟩:=Option.isSome_iff_exists.1 hi
  obtain ⟨h1,h2⟩:=hdom i bl hbl
  rw[h1]at e
  exact zAz hb i hi (r3.rel.inj _ _ rm k km h2 (by show (look _ zU b).isSome=true;rw[hmap];rfl) e hνb)
 have hit0:ItF wi r rm L []:=by
  refine ⟨es,cl,cl,[],hri,Nat.le_refl _,hrmi,g3,g4',rfl,?_⟩
  have:leftOf es #[]=es:=by unfold leftOf;rw[Array.filter_eq_self];simp
  simp[this]
 show (Code.block bid _).wpIn (rnd ro) 0 P _ _ _
 refine wpIn_block ?_
 classical
 let Good (k:Nat) (a':Act) (w':World):Prop:=∃(x:α) (done:List (Value×Value)) (ν':Nu) (F':Fz),L.length-done.length=k/\I done x/\RS ⟨(it,.ex (qd r) .junk)::st x,hps x,n2⟩ ν' F' a' w' nt p/\Evo ν F w (St.H ⟨tm,h0,n⟩) ν' F' w' (St.H ⟨st x,hps x,n2⟩)/\Pin p ν ν' a.defers a'.defers w.heap.size/\¬jf ν' (St.H ⟨st x,hps x,n2⟩) rm/\ItF w' r rm L done
 let μ (a':Act) (w':World):Nat:=if h:∃k,Good k a' w' then Classical.choose (Wk h)else 0
 have hμ:∀a' w',(∃k,Good k a' w')->Good (μ a' w') a' w'/\∀k,Good k a' w'->μ a' w'<=k:=fun a' w' h=>by
  have e:μ a' w'=Classical.choose (Wk h):=dif_pos h
  rw[e]
  exact Classical.choose_spec (Wk h)
 refine wpIn_loop (fun a' w'=>∃k,Good k a' w') μ ⟨_,x0,[],ν2,F1,rfl,hI0,r4,e14,by rw[show (a1.put oR.dst (qd r)).defers=a1.defers by rw[hRd];rfl];exact p14,hnm,hit0⟩ ?_
 intro a5 w5 hg5
 obtain ⟨⟨x,done,ν5,F5,hk5,hI5,r5,e5,p5,hnm5,hit5⟩,hmin⟩:=hμ a5 w5 hg5
 obtain ⟨ri,hit5'⟩:∃o,w5.heap[r]? =some o:=by obtain ⟨es,clock,c0,dl,h,_⟩:=hit5;exact ⟨_,h⟩
 have hdl:vp ri=true/\∀D,ri≠ .deferred D:=by
  obtain ⟨es,clock,c0,dl,h,_⟩:=hit5
  rw[hit5']at h;injection h with h;subst h
  exact ⟨rfl,fun D h=>by cases h⟩
 have hitv:a5.eval (.tmp it)=qd r:=by
  have h:=r5.vals it
  rw[show St.get ⟨(it,.ex (qd r) .junk)::st x,hps x,n2⟩ it= .ex (qd r) .junk by show (bif Nat.beq it it then _ else _)=_;rw[Nat.beq_refl];rfl]at h
  exact ZAq h
 refine wpIn_seq (wpIn_region ?_)
 have hrs:rops.size=2:=by rw[<-Array.length_toList,hN];rfl
 have hr0:rops[0]? =some oN:=by rw[<-Array.getElem?_toList,hN];rfl
 have hr1:rops[1]? =some oX:=by rw[<-Array.getElem?_toList,hN];rfl
 rw[hrs]
 show wpOpsIn (rnd ro) 0 P rops _ [0,1] a5 w5
 have hd1t:d1<a5.tmps.size:=by rw[r5.size];exact hlt.2.1
 have hput:∀v,(a5.put oN.dst v).eval (.tmp d1)=v:=fun v=>by rw[hNd];show (a5.tmps.setIfInBounds d1 v).getD d1 undef=v;simp[hd1t]
 have hdn:∀v v',((a5.put oN.dst v).put oX.dst v').defers=a5.defers:=fun v v'=>by rw[hNd,hXd];rfl
 have fin:∀(bv:Bool) (vs:List Value) (gs:List G) (w6:World),(Instr.next (qd r) false oN.type).run P w5= .ok (.tuple ((.bool bv)::vs).toArray) w6->VR ν5 F5 w6 (.tup (bG bv::gs)) (.tuple ((.bool bv)::vs).toArray)->RS ⟨(it,.ex (qd r) .junk)::st x,hps x,n2⟩ ν5 F5 a5 w6 nt p→
  ∀Q',(∀a6,a6.defers=a5.defers->RS ⟨(d2,bG bv)::(d1,.tup (bG bv::gs))::(it,.ex (qd r) .junk)::st x,hps x,n2⟩ ν5 F5 a6 w6 nt p->a6.eval (.tmp d2)= .bool bv->a6.eval (.tmp it)=qd r->Q' .normal a6 w6)->wpOpsIn (rnd ro) 0 P rops Q' [0,1] a5 w5:=fun bv vs gs w6 h1 h2 h3 Q' hQ=>by
  refine Xx hr0 hNg (fun c h=>by rw[hNop]at h;cases h) (fun c h=>by rw[hNop]at h;cases h) (v:= .tuple ((.bool bv)::vs).toArray) (w':=w6) (by simp only[execOp,hNop,hitv,Sem.run_bind,h1,Result.andThen_ok,Sem.run_pure]) ?_
  have r6:=h3.put hNd hlt.2.1 h2
  refine Xx hr1 hXg (fun c h=>by rw[hXop]at h;cases h) (fun c h=>by rw[hXop]at h;cases h) (v:= .bool bv) (w':=w6) (by simp only[execOp,hXop,hput];simp[Instr.extract]) ?_
  have r7:=r6.put hXd hlt.2.2.1 (v:= .bool bv) (g:=bG bv) (.d (.sc _ rfl))
  refine hQ _ (hdn _ _) r7 ?_ ?_
  ·have h:=r7.vals d2
   rw[show St.get ⟨(d2,bG bv)::(d1,.tup (bG bv::gs))::(it,.ex (qd r) .junk)::st x,hps x,n2⟩ d2=bG bv by show (bif Nat.beq d2 d2 then _ else _)=_;rw[Nat.beq_refl];rfl]at h
   exact h.sc_inv
  ·have h:=r7.vals it
   have f1:Nat.beq it d2=false:=by cases e:Nat.beq it d2 with|false=>rfl|true=>exact absurd (Nat.eq_of_beq_eq_true e) hne.2.1
   have f2:Nat.beq it d1=false:=by cases e:Nat.beq it d1 with|false=>rfl|true=>exact absurd (Nat.eq_of_beq_eq_true e) hne.1
   rw[show St.get ⟨(d2,bG bv)::(d1,.tup (bG bv::gs))::(it,.ex (qd r) .junk)::st x,hps x,n2⟩ it= .ex (qd r) .junk by
    show (bif Nat.beq it d2 then _ else (bif Nat.beq it d1 then _ else (bif Nat.beq it it then _ else _)))=_
    rw[f1,f2,Nat.beq_refl];rfl]at h
   exact ZAq h
 have hdrop:∀ {gs1 gs2 gs3:G} {ν':Nu} {F':Fz} {a':Act} {w':World} (ks:List (Nat×G)),RS ⟨ks++(d2,gs1)::(d1,gs2)::(it,gs3)::st x,hps x,n2⟩ ν' F' a' w' nt p->(ks= []->RS ⟨st x,hps x,n2⟩ ν' F' a' w' nt p)/\RS ⟨ks++(it,gs3)::st x,hps x,n2⟩ ν' F' a' w' nt p:=fun {gs1 gs2 gs3 ν' F' a' w'} ks h=>by
  have hst':=hst x
  have gi:∀t,t=it∨t=d1∨t=d2->zg (st x) t= .junk:=fun t ht=>zFl (ks:=[it,d1,d2]) (by rcases ht with rfl|rfl|rfl<;>simp) hst'
  constructor
  ·rintro rfl
   refine ⟨h.pin,fun t=> ?_,h.rel,h.defers,h.free,h.size,h.fresh⟩
   have hv:=h.vals t
   show VR _ _ _ (zg (st x) t) _
   by_cases hx:t=it∨t=d1∨t=d2
   ·rw[gi t hx];exact .junk _
   ·simp only[not_or]at hx
    have bq:∀ {i},t≠i->Nat.beq t i=false:=fun {i} hi=>by cases e:Nat.beq t i with|false=>rfl|true=>exact absurd (Nat.eq_of_beq_eq_true e) hi
    rw[show St.get ⟨[]++(d2,_)::(d1,_)::(it,_)::st x,hps x,n2⟩ t=zg (st x) t by
     show (bif Nat.beq t d2 then _ else (bif Nat.beq t d1 then _ else (bif Nat.beq t it then _ else _)))=_
     rw[bq hx.2.2,bq hx.2.1,bq hx.1];rfl]at hv
    exact hv
  ·refine ⟨h.pin,fun t=> ?_,h.rel,h.defers,h.free,h.size,h.fresh⟩
   have hv:=h.vals t
   have key:∀ks:List (Nat×G),VR ν' F' w' (zg (ks++(d2,gs1)::(d1,gs2)::(it,gs3)::st x) t) (a'.tmps.getD t undef)->VR ν' F' w' (zg (ks++(it,gs3)::st x) t) (a'.tmps.getD t undef):=by
    intro ks
    induction ks with
    |nil=>
     intro hv
     simp only[List.nil_append,zg]at hv⊢
     cases e3:Nat.beq t it with
     |true=>
      have:=Nat.eq_of_beq_eq_true e3
      subst this
      have f1:Nat.beq t d2=false:=by cases e:Nat.beq t d2 with|false=>rfl|true=>exact absurd (Nat.eq_of_beq_eq_true e) hne.2.1
      have f2:Nat.beq t d1=false:=by cases e:Nat.beq t d1 with|false=>rfl|true=>exact absurd (Nat.eq_of_beq_eq_true e) hne.1
      simpa [f1,f2,e3]using hv
     |false=>
      simp only[cond_false]
      cases e2:Nat.beq t d2 with
      |true=>rw[gi t (.inr (.inr (Nat.eq_of_beq_eq_true e2)))];exact .junk _
      |false=>
       cases e1:Nat.beq t d1 with
       |true=>rw[gi t (.inr (.inl (Nat.eq_of_beq_eq_true e1)))];exact .junk _
       |false=>simpa [e1,e2,e3]using hv
    |cons k ks ih=>
     obtain ⟨k1,g1⟩:=k
     intro hv
     simp only[List.cons_append,zg]at hv⊢
     cases e:Nat.beq t k1 with
     |true=>rw[e]at hv;exact hv
     |false=>rw[e]at hv;exact ih hv
   exact key ks hv
 have hltr:r<w5.heap.size:=(Array.getElem?_eq_some_iff.1 hit5').1
 have hsz5:rm<w5.heap.size:=by omega
 rcases hit5.next (P:=P) oN.type with ⟨hperm,hn⟩|⟨k,v,rest,w6a,o,hperm,hw6,hn,hit6,hent⟩
 ·refine fin false [] [] w5 hn (.tup _ _ rfl fun j g u h1 h2=> ?_) r5 _ fun a6 hdef r6 hev _=> ?_
  ·match j with
   |0=>simp at h1 h2;subst h1;subst h2;exact .d (.sc _ rfl)
   |j+1=>simp at h1
  ·refine wpIn_seq (wpIn_cond_false hev (wpIn_exit ?_))
   show Exit.inBlock bid _ (.exit bid) a6 w5
   simp only[Exit.inBlock,if_true]
   exact ⟨_,ν5,F5,hdone done x hperm hI5,(hdrop [] r6).1 rfl,e5,by rw[hdef];exact p5⟩
 ·have hkv:=hone (k,v) (hperm.mem_iff.1 (by simp))
  obtain ⟨r6,e6⟩:=r5.iter (o':=o) e5 hw6 hlw hit5' hdl.1 hdl.2
  have hs6:(w6a.putObj r o).heap.size=w5.heap.size:=by rcases hw6 with rfl|rfl<;>simp[World.putObj]<;>rfl
  refine fin true [k,v] [.d (.sc k),.d (.sc v)] (w6a.putObj r o) hn (.tup _ _ rfl fun j g u h1 h2=> ?_) r6 _ fun a6 hdef r7 hev hitv6=> ?_
  ·match j with
   |0=>simp at h1 h2;subst h1;subst h2;exact .d (.sc _ rfl)
   |1=>simp at h1 h2;subst h1;subst h2;exact .d (.sc _ hkv.1)
   |2=>simp at h1 h2;subst h1;subst h2;exact .d (.sc _ hkv.2)
   |j+3=>simp at h1
  ·generalize hw7:w6a.putObj r o=w7 at*
   refine wpIn_seq (wpIn_cond_true hev (wpIn_skip ?_))
   show (Code.block b1 _).wpIn (rnd ro) 0 P _ a6 w7
   refine wpIn_block ?_
   have hes:0<eops.size:=(Array.getElem?_eq_some_iff.1 hE).1
   have r7':=(hdrop [] r7).2
   have r8:=RS.put r7' hEd hlt.2.2.2 (v:= .tuple #[k,v]) (g:= .tup [.d (.sc k),.d (.sc v)]) (.tup [.d (.sc k),.d (.sc v)] #[k,v] rfl fun j g u h1 h2=>by
    match j with
    |0=>simp at h1 h2;subst h1;subst h2;exact .d (.sc _ hkv.1)
    |1=>simp at h1 h2;subst h1;subst h2;exact .d (.sc _ hkv.2)
    |j+2=>simp at h1)
   have hg:=hround r done k v rest x hperm hI5 ro ν5 F5 w7 (St.H ⟨st x,hps x,n2⟩) a6.defers ν5 F5 _ w7 r8 (hl.evo hr.rel e6) (Evo.refl _ _ _ _) (by rw[show (a6.put oE.dst (.tuple #[k,v])).defers=a6.defers by rw[hEd];rfl];exact Pin.refl _ _ _ _)
   refine wpIn_seq (wpIn_mono (Q:=qk nt p ν5 F5 a6.defers w7 (St.H ⟨st x,hps x,n2⟩) (Exit.thenS (fun σ'=>GW P nt p y σ' fun e σ''=>e= .normal/\∃x' ρ qs,ya p ρ σ'' ⟨(it,.ex (qd r) .junk)::st x',hps x',n2⟩=some qs/\zC qs/\I (done++ [(k,v)]) x') fun e σ''=>e= .normal/\∃x' ρ qs,ya p ρ σ'' ⟨(it,.ex (qd r) .junk)::st x',hps x',n2⟩=some qs/\zC qs/\I (done++ [(k,v)]) x')) (wpIn_region ?_) ?_)
   ·have e0:List.range eops.size=0::List.range' 1 (eops.size-1):=by
     obtain ⟨z,hz⟩:∃z,eops.size=z+1:=⟨eops.size-1,by omega⟩
     rw[hz,List.range_eq_range',List.range'_succ];simp
    rw[e0]
    refine Xx hE hEg (fun c h=>by rw[hEop]at h;cases h) (fun c h=>by rw[hEop]at h;cases h) (v:= .tuple #[k,v]) (w':=w7) ?_ hg
    have:=hent w7 rfl rfl
    simp only[execOp,hEop,hitv6,Sem.run_bind,show (Instr.entry (qd r)).run P w7=_ from this,Result.andThen_ok,Sem.run_pure]
   ·rintro e a8 w8 ⟨σ8,ν8,F8,q8,s8,e8,p8⟩
    cases e with
    |normal=>
     refine wpIn_mono (q8 ro ν8 F8 a8 w8 s8 ((hl.evo hr.rel e6).evo r7.rel e8)) ?_
     rintro e a9 w9 ⟨σ9,ν9,F9,⟨rfl,x',ρ',qs,hw9,hq9,hI9⟩,s9,e9,p9⟩
     obtain ⟨ν10,s10,e10,p10⟩:=(zo hw9 hq9).rs s9
     have e710:Evo ν5 F5 w7 (St.H ⟨st x,hps x,n2⟩) ν10 F9 w9 (St.H ⟨(it,.ex (qd r) .junk)::st x',hps x',n2⟩):=(e8.trans e9).trans e10
     have hsz7:w7.heap.size=w5.heap.size:=hs6
     have hrm7:w9.heap[rm]? =w7.heap[rm]? :=e710.frame rm (by omega) hnm5
     have hr7:w9.heap[r]? =w7.heap[r]? :=by
      obtain ⟨es',cl',c0',dl',hh,_⟩:=hit6
      rw[e710.notMine r7.rel hh rfl];exact hh.symm
     have z8:=e8.size
     have z9:=e9.size
     have z5:=e5.size
     have q1:Pin p ν ν8 a.defers a8.defers w.heap.size:=p5.trans (n':=w7.heap.size) (by rw[<-hdef];exact p8) (by omega)
     have q2:Pin p ν ν9 a.defers a9.defers w.heap.size:=q1.trans p9 (by omega)
     have q3:Pin p ν ν10 a.defers a9.defers w.heap.size:=q2.trans p10 (by omega)
     have hg2:Good (L.length-(done++ [(k,v)]).length) a9 w9:=⟨x',done++ [(k,v)],ν10,F9,rfl,hI9,s10,e6.trans e710,q3,fun hm=>by
      rcases e710.mine rm hm with h|h
      ·exact hnm5 h
      ·omega,hit6.keep hr7 hrm7⟩
     refine ⟨⟨_,hg2⟩,?_⟩
     have h1:=(hμ a9 w9 ⟨_,hg2⟩).2 _ hg2
     have hlen:=hperm.length_eq
     simp only[List.length_append,List.length_cons,List.length_nil]at hlen h1
     rw[<-hk5]
     omega
    |_=>cases q8.1
def MR [Laid] {α:Type} (p:Nat) (inv:α->St) (I':α->Prop):Exit->St->Prop:=fun e σ=>e= .normal/\∃x' ρ qs,ya p ρ σ (inv x')=some qs/\zC qs/\I' x'
theorem vo {α:Type} {inv:α->St} {I':α->Prop} {σ:St} (x':α) {ps ps':List Prop} (hI:I' x') (h:JF p σ (inv x')=some ps:=by rfl) (hf:nfP ps=some ps':=by rfl) (hp:zC ps':=by (try simp only[zC]);repeat' first|exact trivial|exact rfl|omega|apply And.intro):GK P nt p (MR p inv I') .skip [] σ:=
 (yF h).elim fun ρ h=>⟨rfl,x',ρ,ps,h,ZY hf▸hp,hI⟩
theorem WH (env:Env P T) (wr:Bool) (hs:List (Hint P)) (kp:List Nat) {R:Exit->St->Prop} {ops:Array Oper} {y c':Code} {K':List Kont} {tm tm' tm1:List (Nat×G)} {h0 h1 h2:List (Nat×Option Blk)} {n n1:Nat} {feet:List Foot} {pr pr':List Prop} {hs':List (Hint P)}
 (hq:GK P nt p R c' K' ⟨tm',h2,n1⟩) (h:jl P wr T nt ops (ops.toList.drop 1) tm h0 n [] hs=some (pr,⟨tm1,h1,n1⟩,feet,hs'):=by rfl) (hg:zt ops nt=true:=by kernel_rfl) (hk:QP tm1 kp=some tm':=by rfl) (hh:nfH [] h1=some h2:=by rfl) (hn:nrm 1000 y []=some (c',K'):=by rfl) (hf:nfP pr=some pr':=by rfl)
 (hp:zC pr':=by first|trivial|(simp only[zC,bb,toN];repeat' first|exact trivial|exact zH.refl _|exact zE.refl _|exact rfl|omega|apply And.intro|intro _|exact QI (by simp_all;done))):GWO P nt p ops 1 ⟨tm,h0,n⟩ (Exit.thenS (fun σ'=>GW P nt p y σ' R) R):=by
 intro ro ν0 F0 w0 H0 l0 ν F a w hr hl he hpn
 have e:List.range' 1 (ops.size-1)=List.range' 1 (ops.toList.drop 1).length++ []:=by rw[List.append_nil,List.length_drop,Array.length_toList]
 rw[e]
 refine YX (Q:=fun σ=>σ=⟨tm1,h1,n1⟩) hg (fun σ ν F a w q r e p=> ?_) _ _ [] 1 ⟨[],by simp⟩ (qE env.ty _ _ _ _ _ _ _ h (ZY hf▸hp) rfl) ν F a w hr he hpn
 subst q
 have e:St.H ⟨tm',h2,n1⟩=St.H ⟨tm1,h1,n1⟩:=Je hh
 exact ⟨⟨tm',h2,n1⟩,ν,F,(zp hn hq).gw,⟨r.pin,fun t=>wH (r.vals t) kp tm' hk,e▸r.rel,r.defers,r.free,r.size,e▸r.fresh⟩,e▸(by assumption),p⟩
def zGz (nt:Nat):List Nat->Bool
 | []=>true
 |t::l=>Nat.blt t nt&&zGz nt l
def ve:List (Value×Value)->Bool
 | []=>true
 |(k,v)::l=>k.oneCell'&&v.oneCell'&&ve l
theorem zAd:∀ {l:List (Value×Value)},ve l=true->∀e,e∈l->e.1.oneCell'=true/\e.2.oneCell'=true:=by
 intro l
 induction l with
 |nil=>intro _ e h;cases h
 |cons x l ih=>
  obtain ⟨k,v⟩:=x
  intro h e he
  simp only[ve,Bool.and_eq_true]at h
  rcases List.mem_cons.1 he with rfl|he
  ·exact h.1
  ·exact ih h.2 e he
def zIc:Op->Option (TypeId×Operand)
 | .range t x=>some (t,x)
 |_=>none
theorem Jo (env:Env P T) (wr:Bool) (m:Nat) (hs:List (Hint P)) {α:Type} (b it d1 d2 de n2:Nat) (L:List (Value×Value)) (I:List (Value×Value)->α->Prop) (st:α->List (Nat×G)) (hps:α->List (Nat×Option Blk)) (x0:α) {R:Exit->St->Prop} {c':Code} {K K':List Kont}
 {id bid rid eid b1:Nat} {ops rops eops:Array Oper} {oR oN oX oE:Oper} {y:Code} {hs':List (Hint P)} {tm tm1:List (Nat×G)} {h0 h1:List (Nat×Option Blk)} {n n1:Nat} {feet:List Foot} {pr pr':List Prop} {lr:List (Nat×Nat)} {ps ps':List Prop} {tR:TypeId} {xR:Operand} {eT:TyE} {kt et:TypeId}
 (hI0:I [] x0)
 (hround:∀r done k v rest x,(done++(k,v)::rest).Perm L->I done x->GWO P nt p eops 1 ⟨(de,.tup [.d (.sc k),.d (.sc v)])::(it,.ex (qd r) .junk)::st x,hps x,n2⟩ (Exit.thenS (fun σ'=>GW P nt p y σ' (MR p (fun x'=>⟨(it,.ex (qd r) .junk)::st x',hps x',n2⟩) (I (done++ [(k,v)])))) (MR p (fun x'=>⟨(it,.ex (qd r) .junk)::st x',hps x',n2⟩) (I (done++ [(k,v)])))))
 (hdone:∀done x,done.Perm L->I done x->GK P nt p R c' K' ⟨st x,hps x,n2⟩)
 (hone:ve L=true)
 (hrun:jl P wr T nt ops (ops.toList.take m) tm h0 n [] hs=some (pr,⟨tm1,h1,n1⟩,feet,hs'):=by rfl) (hR:ops[m]? =some oR:=by rfl) (hRop:zIc oR.op=some (tR,xR):=by rfl)
 (hl:nfN (XR h1 (hps x0) (uM tm1 (st x0)) (uM tm1 (st x0)))=some lr:=by rfl) (hw:ya p (Hj lr) ⟨tm1,h1,n1⟩ ⟨st x0,hps x0,n2⟩=some ps:=by rfl) (hf2:nfP ps=some ps':=by rfl)
 (hgo:zt ops nt=true:=by kernel_rfl) (hm:Nat.beq ops.size (m+1)=true:=by kernel_rfl) (hf:nfP pr=some pr':=by rfl) (hb:ue (Hj lr) b (hps x0)=true:=by rfl)
 (hRd:oR.dst=some it:=by rfl) (hRg:oR.guard=none:=by rfl) (hRx:(⟨tm1,h1,n1⟩:St).ev xR= .mp b:=by rfl) (hmap:look h1 zU b=some (.mp L):=by rfl) (hte:zM T tR=some eT:=by rfl) (hmd:qr eT.desc=some (kt,et):=by rfl)
 (hN:rops.toList= [oN,oX]:=by rfl) (hNop:oN.op= .next (.tmp it) false:=by rfl) (hNd:oN.dst=some d1:=by rfl) (hNg:oN.guard=none:=by rfl) (hXop:oX.op= .extract (.tmp d1) 0:=by rfl) (hXd:oX.dst=some d2:=by rfl) (hXg:oX.guard=none:=by rfl)
 (hE:eops[0]? =some oE:=by rfl) (hEop:oE.op= .entry (.tmp it):=by rfl) (hEd:oE.dst=some de:=by rfl) (hEg:oE.guard=none:=by rfl)
 (hlt:zGz nt [it,d1,d2,de]=true:=by rfl) (hne:it≠d1/\it≠d2/\d1≠d2:=by decide) (hst:∀x,ud [it,d1,d2] (st x)=true:=by intro _;rfl) (nd:nrm 1000 .skip K=some (c',K'):=by rfl)
 (hps0:zC ps':=by (try simp only[zC]);repeat' first|exact trivial|exact rfl|omega|apply And.intro)
 (hpr:zC pr':=by first|trivial|(simp only[zC,bb,toN];repeat' first|exact trivial|exact zH.refl _|exact zE.refl _|exact rfl|omega|apply And.intro|intro _)):
 GK P nt p R (.seq (.region id ops false) (.block bid (.loop (.seq (.region rid rops false) (.seq (.cond (.tmp d2) .skip (.exit bid)) (.block b1 (.seq (.region eid eops false) y))))))) K ⟨tm,h0,n⟩:=by
 have hRop':oR.op= .range tR xR:=by
  unfold zIc at hRop;split at hRop
  ·rename_i h;cases hRop;exact h
  ·cases hRop
 simp only[zGz,Bool.and_eq_true,Nat.blt_eq]at hlt
 exact zBj env b it d1 d2 de n2 L I st hps x0 hrun hgo (ZY hf▸hpr) (Nat.eq_of_beq_eq_true hm) hw (ZY hf2▸hps0) hI0 hb hR hRop' hRd hRg hRx hmap hte hmd hN hNop hNd hNg hXop hXd hXg hE hEop hEd hEg ⟨hlt.1,hlt.2.1,hlt.2.2.1,hlt.2.2.2.1⟩ hne hst (zAd hone) hround (fun done x h1 h2=>(zp nd (hdone done x h1 h2):GK P nt p R .skip K _))
theorem Jn {id:Nat} {ops:Array Oper} {R:Exit->St->Prop} {K:List Kont} {σ:St} (h:GWO P nt p ops 0 σ (kQ P nt p R K)):GK P nt p R (.region id ops false) K σ:=fun ro ν F a w hr hl=>by
 refine wpIn_region ?_
 rw[List.range_eq_range']
 exact h ro ν F w σ.H a.defers ν F a w hr hl (Evo.refl _ _ _ _) (Pin.refl _ _ _ _)
theorem ZC (env:Env P T) (wr:Bool) (m:Nat) (hs:List (Hint P)) {ops:Array Oper} {k:Nat} {tm tm1:List (Nat×G)} {h0 h1:List (Nat×Option Blk)} {n n1:Nat} {feet:List Foot} {pr pr':List Prop} {hs':List (Hint P)} {Q:Exit->St->Prop}
 (hq:GWO P nt p ops (k+m) ⟨tm1,h1,n1⟩ Q) (h:jl P wr T nt ops ((ops.toList.drop k).take m) tm h0 n [] hs=some (pr,⟨tm1,h1,n1⟩,feet,hs'):=by rfl) (hg:zt ops nt=true:=by kernel_rfl) (hm:Nat.ble (k+m) ops.size=true:=by kernel_rfl) (hf:nfP pr=some pr':=by rfl)
 (hp:zC pr':=by first|trivial|(simp only[zC,bb,toN];repeat' first|exact trivial|exact zH.refl _|exact zE.refl _|exact rfl|omega|apply And.intro|intro _|exact QI (by simp_all;done))):GWO P nt p ops k ⟨tm,h0,n⟩ Q:=by
 intro ro ν0 F0 w0 H0 l0 ν F a w hr hl he hpn
 have hm':=Nat.le_of_ble_eq_true hm
 have hlen:((ops.toList.drop k).take m).length=m:=by rw[List.length_take,List.length_drop,Array.length_toList];omega
 have e:List.range' k (ops.size-k)=List.range' k ((ops.toList.drop k).take m).length++List.range' (k+m) (ops.size-(k+m)):=by
  rw[hlen]
  have:=List.range'_append_1 (s:=k) (m:=m) (n:=ops.size-(k+m))
  rw[this];congr 1;omega
 rw[e]
 exact YX (Q:=fun σ=>σ=⟨tm1,h1,n1⟩) (H0:=St.H ⟨tm,h0,n⟩) hg (fun σ' ν' F' a' w' q r e p=>by subst q;exact hq ro ν0 F0 w0 H0 l0 ν' F' a' w' r (hl.evo hr.rel e) (he.trans e) (hpn.trans p he.size)) _ _ [] k ⟨(ops.toList.drop k).drop m,(List.take_append_drop _ _).symm⟩ (qE env.ty _ _ _ _ _ _ _ h (ZY hf▸hp) rfl) ν F a w hr (Evo.refl _ _ _ _) (Pin.refl _ _ _ _)
theorem zSc (g:G) {ops:Array Oper} {k d:Nat} {o:Oper} {tm:List (Nat×G)} {hp:List (Nat×Option Blk)} {n:Nat} {Q:Exit->St->Prop} (h:GWO P nt p ops (k+1) ⟨(d,.opt false g)::tm,hp,n⟩ Q) (ho:ops[k]? =some o:=by rfl) (hd:o.dst=some d:=by rfl) (hdn:Nat.blt d nt=true:=by rfl) (hg:zt ops nt=true:=by kernel_rfl) (hw:YM ops ⟨tm,hp,n⟩ o=some false:=by rfl):GWO P nt p ops k ⟨tm,hp,n⟩ Q:=by
 intro ro ν0 F0 w0 H0 l0 ν F a w hr hl he hpn
 have hk:k<ops.size:=(Array.getElem?_eq_some_iff.1 ho).1
 have e:ops.size-k=(ops.size-(k+1))+1:=by omega
 rw[e,List.range'_succ,wpOpsIn,ho]
 simp only[]
 rw[vO hw hr.vals (fun j want d' e1 e2=>by rw[hr.size];exact yy hg e2),if_neg (by decide)]
 exact ⟨fun _ _=>trivial,h ro ν0 F0 w0 H0 l0 ν F _ w (hr.put hd (by simpa using hdn) (.opt _ _ _ (fun h=>by cases h) fun _=>rfl)) hl he (by rw[hd];exact hpn)⟩
theorem Yo (kp:List Nat) {ops:Array Oper} {k:Nat} {tm tm':List (Nat×G)} {h1 h2:List (Nat×Option Blk)} {n:Nat} {R:Exit->St->Prop} {c':Code} {K K':List Kont} (hq:GK P nt p R c' K' ⟨tm',h2,n⟩) (hk:Nat.beq ops.size k=true:=by kernel_rfl) (hkp:QP tm kp=some tm':=by rfl) (hh:nfH [] h1=some h2:=by rfl) (hn:nrm 1000 .skip K=some (c',K'):=by rfl):GWO P nt p ops k ⟨tm,h1,n⟩ (kQ P nt p R K):=by
 intro ro ν0 F0 w0 H0 l0 ν F a w hr hl he hpn
 rw[Nat.eq_of_beq_eq_true hk,Nat.sub_self]
 have e:St.H ⟨tm',h2,n⟩=St.H ⟨tm,h1,n⟩:=Je hh
 exact ⟨⟨tm',h2,n⟩,ν,F,(zp hn hq:GK P nt p R .skip K _),⟨hr.pin,fun t=>wH (hr.vals t) kp tm' hkp,e▸hr.rel,hr.defers,hr.free,hr.size,e▸hr.fresh⟩,e▸he,hpn⟩
end
end Go.Gh
namespace Go.Gh
open Go Go.RowKit Go.Sort
set_option linter.unusedVariables false
set_option linter.unusedSectionVars false
def inI (z:Int):List D:=[.sc (.int .i64 z)]
theorem zSi [Laid] {P:Program} {f:FuncId} {fn:Func} {c:Code} {ty:Nat} {zs out ext:List Int} {df:Int} {g:G} {v:Option Addr→Nat→Value} (hf:P.funcs[f]? =some fn) (hb:fn.body=some c) (hname:(fn.name== "runtime.NumGoroutine")=false) (hlen:(out++ext).length=zs.length)
 (hg:∀(ν:Nu) (F:Fz) (w:World) (r k:Nat),zs.length<=k->ν 0=some (r,k)->VR ν F w g (v (some ⟨r,0,none⟩) k)) (hg0:zs= []->∀(ν:Nu) (F:Fz) (w:World) A c,((∃r k,ν 0=some (r,k)/\A=some ⟨r,0,none⟩/\c=k)∨(A=none/\c=0))->VR ν F w g (v A c))
 (h:zs≠ []->∀blk cap (w:World),Holds (Value.int .i64) w blk 0 zs.toArray->blk<w.heap.size->zs.length<=cap->Calls P f #[.slice (some ⟨blk,0,none⟩) zs.length cap] w fun e w'=>e= .returned (v (some ⟨blk,0,none⟩) cap)/\∃n os,w'=Sort.grow (putRow (Value.int .i64) (Sort.ahead w n) blk 0 (out++ext).toArray) os)
 (h0:zs= []->∀A cap (w:World),Calls P f #[.slice A 0 cap] w fun e w'=>e= .returned (v A cap)/\w'=w):
 GM P f [.sl 0 1 0 zs.length] [.row ty 1 df inI zs 0] g [some (.row ty 1 df inI out 0)]:=by
 refine ⟨⟨fn,c,hf,hb,hname⟩,fun ν F w vs hr hν hv=> ?_⟩
 obtain ⟨u,rfl,hu⟩:∃u,vs= #[u]/\VR ν F w (.sl 0 1 0 zs.length) u:=by
  obtain ⟨l⟩:=vs
  match l,hv.1 with
  | [u],_=>exact ⟨u,rfl,hv.2 0 _ u rfl rfl⟩
 by_cases hz:zs= []
 ·subst hz
  have ho:out= []:=by
   have:out.length=0:=by simp at hlen;exact List.length_eq_zero_iff.2 hlen.1
   exact List.length_eq_zero_iff.1 this
  subst ho
  cases hu with
  |sl b es i n A c h1 h2 h3=>
   refine (h0 rfl A c w).mono fun e w' ⟨he,hw⟩=> ?_
   subst hw
   have e:hpR [some (Blk.row ty 1 df inI [] 0)]=hpF [Blk.row ty 1 df inI [] 0]:=by
    funext i;match i with
    |0=>rfl
    |i+1=>rfl
   exact ⟨ν,F,_,he,hg0 rfl ν F w' A c (h2 rfl rfl),e▸hr,fun _ _=>rfl,hν,e▸Evo.refl _ _ _ _⟩
 ·have hpos:0<zs.length:=List.length_pos_iff.2 hz
  cases hu with
  |sl b es i n A cp h1 h2 h3=>
   obtain ⟨r,k,e1,rfl,h4,h5⟩:=h1 hpos
   have hbr:=hr.blk 0 (.row ty 1 df inI zs 0) rfl
   rcases hbr with ⟨e2,_⟩|⟨r',k',arr,e2,a1,a2,a3,a4,a5,a6,a7,a8,a9⟩
   ·rw[e1]at e2;cases e2
   ·rw[e1]at e2;cases e2
    rw[Nat.zero_mul,Nat.sub_zero,Nat.zero_add]at*
    subst h5
    have hcell:∀j (hj:j<zs.length),arr[j]? =some (.int .i64 zs[j]):=fun j hj=>by
     have hja:j<arr.size:=by rw[a3];omega
     have:=a7 j zs[j] 0 (.sc (.int .i64 zs[j])) arr[j] (List.getElem?_eq_getElem hj) rfl (by rw[Nat.mul_one,Nat.add_zero];exact Array.getElem?_eq_getElem hja)
     rw[Array.getElem?_eq_getElem hja]
     generalize arr[j]=u at this⊢
     cases this;rfl
    have hH:Holds (Value.int .i64) w r 0 zs.toArray:=fun j hj=>by
     have hj':j<zs.length:=by simpa using hj
     refine ⟨?_,?_⟩
     ·simp only[World.cell?,a1,Nat.zero_add]
      rw[hcell j hj',getElem!_pos zs.toArray j hj];simp
     ·simp[World.frozen?,a1]
    have hlt:r<w.heap.size:=(Array.getElem?_eq_some_iff.1 a1).1
    refine (h hz r cp w hH hlt h3).mono fun e w' ⟨he,n,os,hw⟩=> ?_
    have hheap:∀q,q<w.heap.size->w'.heap[q]? =if q=r then some (.cells (putCells (Value.int .i64) 0 (out++ext).toArray arr) ty (0,0))else w.heap[q]? :=fun q hq=>by
     subst hw
     show (((Sort.ahead w n).heap.modify r (onCells (putCells (Value.int .i64) 0 (out++ext).toArray)))++os)[q]? =_
     rw[Array.getElem?_append_left (by simpa using hq),Array.getElem?_modify]
     by_cases e:r=q
     ·subst e;simp only[if_true];show ((w.heap[r]?).map _)=_;rw[a1];rfl
     ·rw[if_neg e,if_neg (fun h=>e h.symm)];rfl
    have hsz:w.heap.size<=w'.heap.size:=by subst hw;simp[grow,putRow,mapBlock,Sort.ahead]
    have hnF:∀o,¬F r o:=fun o ho=>by have:=(a8 o).1 ho;omega
    have hk:Keep F w F w':=⟨fun _ _ h=>h,fun b o hb=>by
     have hbl:=hr.old_lt hb
     have hne:b≠r:=fun e=>hnF o (e▸hb)
     simp only[World.cell?,hheap b hbl,if_neg hne],fun b o hb=>by
     have hbl:=hr.old_lt hb
     have hne:b≠r:=fun e=>hnF o (e▸hb)
     exact Zj (by rw[hheap b hbl,if_neg hne])⟩
    have hps:(putCells (Value.int .i64) 0 (out++ext).toArray arr).size=arr.size:=by simp[putCells]
    have hpc:∀j,j<zs.length->(putCells (Value.int .i64) 0 (out++ext).toArray arr)[j]? =some (.int .i64 ((out++ext).getD j 0)):=fun j hj=>by
     have hja:j<arr.size:=by rw[a3];omega
     have hj2:j<(out++ext).length:=by rw[hlen];exact hj
     simp only[putCells,Array.getElem?_mapIdx,Array.getElem?_eq_getElem hja,Option.map_some]
     rw[if_pos ⟨Nat.zero_le _,by simpa using hj2⟩,Nat.sub_zero,getElem!_pos (out++ext).toArray j (by simpa using hj2)]
     rw[List.getD_eq_getElem?_getD,List.getElem?_eq_getElem hj2];simp
    have hone:∀u,u∈(putCells (Value.int .i64) 0 (out++ext).toArray arr).toList->u.oneCell'=true:=fun u hu=>by
     obtain ⟨j,hj,rfl⟩:=List.mem_iff_getElem.1 hu
     simp only[Array.length_toList]at hj
     have hja:j<arr.size:=by rw[<-hps];exact hj
     simp only[Array.getElem_toList,putCells,Array.getElem_mapIdx]
     split
     ·rfl
     ·exact a6 _ (by simp)
    have hinj:∀(i j r k k':Nat),(hpR [some (Blk.row ty 1 df inI out 0)] i).isSome=true->(hpR [some (Blk.row ty 1 df inI out 0)] j).isSome=true->ν i=some (r,k)->ν j=some (r,k')->i=j:=fun i j r k k' hi hj _ _=>by
     match i,j with
     |0,0=>rfl
     |i+1,_=>simp[hpR]at hi
     |0,j+1=>simp[hpR]at hj
    refine ⟨ν,F,_,he,hg ν F w' r cp h3 e1,⟨hinj,fun i b hi=> ?_,fun b o hb=>by rw[hk.same b o hb];exact hr.old b o hb,hr.glob.keep hk⟩,fun _ _=>rfl,hν,⟨hk,by subst hw;rfl,by subst hw;rfl,by subst hw;rfl,hsz,fun q hq hm=> ?_,fun q hq=> .inl ?_,fun b o hb=> .inl hb⟩⟩
    ·match i with
     |0=>
      cases hi
      have hol:out.length<=zs.length:=by rw[<-hlen];simp
      refine .inr ⟨r,cp,_,e1,by rw[hheap r hlt,if_pos rfl],a2,by rw[hps,a3],by omega,fun e he=>rfl,hone,fun i e j x u q1 q2 q3=> ?_,fun o=>⟨fun h=>(hnF o h).elim,fun h=>by omega⟩,Nat.zero_le _⟩
      have hi':=(List.getElem?_eq_some_iff.1 q1).1
      match j with
      |0=>
       cases q2
       rw[Nat.mul_one,Nat.add_zero,hpc i (by omega)]at q3
       cases q3
       have:(out++ext).getD i 0=e:=by
        rw[List.getD_eq_getElem?_getD,List.getElem?_append_left hi',q1];rfl
       rw[this];exact .sc _ rfl
      |j+1=>cases q2
     |i+1=>simp[hpR]at hi
    ·rw[hheap q hq,if_neg]
     intro e
     exact hm ⟨0,cp,rfl,by rw[e];exact e1⟩
    ·obtain ⟨i,k,hi,e⟩:=hq
     match i with
     |0=>exact ⟨0,k,rfl,e⟩
     |i+1=>simp[hpR]at hi
end Go.Gh
namespace Go.Gh
open Go
set_option linter.unusedSimpArgs false
set_option linter.unusedVariables false
theorem QD (z:Array Value) (n:Nat):(Builtin.zeroCells z n).size=n*z.size:=by simp[Builtin.zeroCells]
theorem wW {z:Array Value} (n:Nat) (hz:∀v,v∈z->v.oneCell'=true):∀v,v∈(Builtin.zeroCells z n).toList->v.oneCell'=true:=fun v hv=>by
 simp only[Builtin.zeroCells,Array.toList_map,List.mem_map]at hv
 obtain ⟨i,hi,rfl⟩:=hv
 have hi:i<n*z.size:=by simpa using hi
 have h0:0<z.size:=by
  rcases Nat.eq_zero_or_pos z.size with h|h
  ·rw[h]at hi;omega
  ·exact h
 have hm:=Nat.mod_lt i h0
 rw[getElem!_pos z _ hm]
 exact hz _ (Array.getElem_mem hm)
theorem uB {P:Program} (w:World) (t e ty:TypeId) (z:Value) (ht:P.underlying t=some (.slice e)) (hv:(zeroValue e).run P w= .ok z w) (h1:∀v,v∈z.cells->v.oneCell'=true) (g o n c:Nat) (arr:Array Value) (el:TypeId) (hg:w.heap[g]? =some (.cells arr el (0,0))) (hl:o+n*z.cells.size<=arr.size):
 (Builtin.clear_ #[t] ty #[.slice (some ⟨g,o,none⟩) n c]).run P w= .ok (.tuple #[]) (w.setRow g (arr.toList.take o++(Builtin.zeroCells z.cells n).toList++arr.toList.drop (o+n*z.cells.size)).toArray):=by
 have hst:=run_storeCells_at (P:=P) g o el (Builtin.zeroCells z.cells n).toList 0 arr w hg (by simpa [QD]using hl) (wW n h1)
 simp only[Nat.add_zero]at hst
 have hlen:(Builtin.zeroCells z.cells n).toList.length=n*z.cells.size:=by simp[QD]
 rw[hlen]at hst
 cases n with
 |zero=>
  have e0:(Builtin.zeroCells z.cells 0).toList= []:=by simp[Builtin.zeroCells]
  rw[e0]
  simp only[List.append_nil,Nat.zero_mul,Nat.add_zero,List.take_append_drop,Array.toArray_toList]
  rw[setRow_self w g arr el (0,0) hg]
  simp[Builtin.clear_,run_underlying ht]
 |succ m=>simp[Builtin.clear_,run_underlying ht,hv,hst]
end Go.Gh
namespace Go.Gh
open Go
set_option linter.unusedSimpArgs false
set_option linter.unusedVariables false
variable {P:Program} {T:Tab} {o:Oper} {ρ:Operand->G} {H:Hp}
theorem zLo [Laid] {x:Operand} {t:TypeId} (hT:za P T) (ho:o.op= .call {callee:= .builtin .clear,args:= #[x],argTypes:= #[t]}) {te:TyE} (h1:zM T t=some te) {el:TypeId} (hd:te.desc= .slice el) {ee:TyE} (h2:zM T el=some ee) (hz1:zu ee.zero=true) (hzs:Nat.beq ee.zero.cells.size ee.size=true)
 {b es i m:Nat} (hx:ρ x= .sl b es i m) {ty fz:Nat} {α:Type} {df:α} {cs:α->List D} {xs:List α} (hb:H b=some (.row ty es df cs xs fz)) (hse:Nat.beq ee.size es=true) (hp:fz<=i/\i<=xs.length):
 LOp P o ρ H {g:= .junk,upd:=[(b,some (.row ty es df cs (xs.take i) fz))],fp:=[b]} :=by
 have kt:=hT _ _ h1
 have ke:=hT _ _ h2
 have hzs:=Nat.eq_of_beq_eq_true hzs
 have hse:=Nat.eq_of_beq_eq_true hse
 obtain ⟨p1,p2⟩:=hp
 have htl:(xs.take i).length=i:=by rw[List.length_take];omega
 intro H' hf hn
 refine YH fun ν F w a hv hr hnew=> ?_
 have hH':=(hf b (by simp)).trans hb
 have hbr:=hr.blk b _ hH'
 have hxv:=hv x (by simp[ho,Op.operands,Call.operands])
 rw[hx]at hxv
 obtain ⟨A,c,hxe,hA,_,_⟩:=hxv.sl_inv
 obtain ⟨q0,e1,e2,e3,e4⟩:=ke.info
 have hzr:(zeroValue el).run P w= .ok ee.zero w:=by simp[zeroValue,typeInfo,Sem.run_bind,e1,e4]
 have hun:P.underlying t=some (.slice el):=hd▸kt.1
 have hone:∀v,v∈ee.zero.cells->v.oneCell'=true:=fun v hv=>by
  simp only[zu,List.all_eq_true]at hz1
  exact hz1 v (by simpa using hv)
 have hargs:(#[x].map a.eval)= #[Value.slice A m c]:=by simp[hxe]
 have htk:∀(i':Nat) e,(xs.take i)[i']? =some e->i'<i/\xs[i']? =some e:=fun i' e h=>by
  rw[List.getElem?_take]at h
  split at h
  ·exact ⟨by assumption,h⟩
  ·cases h
 rcases hbr with ⟨n1,n2,n3⟩|⟨r,k,arr,b1,b2,b3,b4,b5,b6,b7,b8,b9,b10⟩
 ·have hm:m=0:=by
   rcases Nat.eq_zero_or_pos m with h|h
   ·exact h
   ·obtain ⟨r',k',h3,_⟩:=hA h
    rw[n1]at h3;cases h3
  subst hm
  have hrun:(execOp a.eval o).run P w= .ok (.value (.tuple #[])) w:=Zs ho a w w _ Builtin.clear_ (fun _ _=>rfl) (by rw[hargs];cases A<;>simp[Builtin.clear_,run_underlying hun])
  have hL:look [(b,some (.row ty es df cs (xs.take i) fz))] H'=H':=by
   funext j
   show (bif Nat.beq j b then _ else H' j)=H' j
   cases hjb:Nat.beq j b with
   |false=>rfl
   |true=>rw[Nat.eq_of_beq_eq_true hjb,hH',n2];simp
  exact ⟨_,w,ν,F,hrun,.junk _,hL.symm▸hr,zl.refl ν,fun j hj=>absurd rfl hj,hL.symm▸Evo.refl ν F w H'⟩
 ·by_cases hm:m=0
  ·subst hm
   have hrun:(execOp a.eval o).run P w= .ok (.value (.tuple #[])) w:=Zs ho a w w _ Builtin.clear_ (fun _ _=>rfl) (by rw[hargs];cases A<;>simp[Builtin.clear_,run_underlying hun])
   obtain ⟨r1,r2⟩:=hr.put (b:= .row ty es df cs (xs.take i) fz) hH' b1 (fun _ _=>rfl) rfl (fun _ _=>rfl) rfl rfl rfl (.inr ⟨r,k,arr,rfl,b2,b3,b4,by omega,fun e he=>b6 e (List.mem_of_mem_take he),b7,fun i' e j' x' u a1 a2 a3=>b8 i' e j' x' u (htk i' e a1).2 a2 a3,b9,by omega⟩) (fun _ _=>rfl)
   exact ⟨_,w,ν,F,hrun,.junk _,r1,zl.refl ν,fun j hj=>absurd rfl hj,r2⟩
  ·obtain ⟨r',k',h3,h4,h5,_⟩:=hA (by omega)
   rw[b1]at h3;injection h3 with h3;injection h3 with h3 h3';subst h3 h3'
   subst h4
   have hes:ee.zero.cells.size=es:=hzs.trans hse
   have hroom:i*es+m*ee.zero.cells.size<=arr.size:=by
    rw[hes,b4,<-Nat.add_mul];exact Nat.mul_le_mul_right es h5
   have hrun:=uB (P:=P) w t el o.type ee.zero hun hzr hone r (i*es) m c arr ty b2 hroom
   generalize hvs:(arr.toList.take (i*es)++(Builtin.zeroCells ee.zero.cells m).toList++arr.toList.drop (i*es+m*ee.zero.cells.size))=vs at hrun
   have hzl:(Builtin.zeroCells ee.zero.cells m).toList.length=m*ee.zero.cells.size:=by simp[QD]
   have hal:arr.toList.length=arr.size:=by simp
   have hget:∀q',q'<i*es->vs[q']? =arr.toList[q']? :=fun q' hq=>by
    have:=wt arr.toList (Builtin.zeroCells ee.zero.cells m).toList (i*es) q' (by rw[hzl,hal];exact hroom)
    rw[hzl,if_pos hq]at this
    rw[<-hvs];exact this
   have hvsl:vs.length=arr.size:=by
    rw[<-hvs,List.length_append,List.length_append,hzl,List.length_take,List.length_drop,hal];omega
   have hrun':(execOp a.eval o).run P w= .ok (.value (.tuple #[])) (w.setRow r vs.toArray):=Zs ho a w _ _ Builtin.clear_ (fun _ _=>rfl) (by rw[hargs];exact hrun)
   have hfz:fz*es<=i*es:=Nat.mul_le_mul_right es p1
   have hcell:∀o',F r o'->(w.setRow r vs.toArray).cell? ⟨r,o',none⟩=w.cell? ⟨r,o',none⟩:=fun o' ho'=>by
    have hlt:=(b9 o').1 ho'
    have:=hget o' (by omega)
    have h1:vs.toArray[o']? =arr[o']? :=by simpa using this
    simp only[World.cell?,setRow_heap w r arr vs.toArray ty (0,0) b2,b2,h1]
   have hszr:jJ (w.setRow r vs.toArray) r=jJ w r:=by
    unfold jJ
    rw[setRow_heap w r arr vs.toArray ty (0,0) b2,b2]
    show some vs.toArray.size=some arr.size
    rw[<-hvsl];simp
   have hk:Keep F w F (w.setRow r vs.toArray):=⟨fun _ _ h=>h,fun b' o' hb'=>by
    by_cases e:b'=r
    ·subst e;exact hcell o' hb'
    ·simp only[World.cell?,setRow_other w r b' _ e],fun b' o' hb'=>by
    by_cases e:b'=r
    ·subst e;exact hszr
    ·exact Zj (setRow_other w r b' _ e)⟩
   obtain ⟨r1,r2⟩:=hr.put (b:= .row ty es df cs (xs.take i) fz) hH' b1 (fun r' hr'=>setRow_other w r r' _ hr') (by simp[World.setRow]) hcell rfl rfl rfl (.inr ⟨r,k,vs.toArray,rfl,setRow_heap w r arr _ ty (0,0) b2,b3,by simp[hvsl,b4],by omega,fun e he=>b6 e (List.mem_of_mem_take he),fun u hu=>by
    have hu:u∈vs:=by simpa using hu
    rw[<-hvs,List.append_assoc]at hu
    rcases List.mem_append.1 hu with h|h
    ·exact b7 u (List.mem_of_mem_take h)
    ·rcases List.mem_append.1 h with h|h
     ·exact wW m hone u h
     ·exact b7 u (List.mem_of_mem_drop h),fun i' e j' x' u a1 a2 a3=>by
    obtain ⟨q1,q2⟩:=htk i' e a1
    have hl:=b6 e (List.mem_of_getElem? q2)
    have hj':j'<es:=by rw[<-hl];exact (List.getElem?_eq_some_iff.1 a2).1
    have hlt:=qx (es:=es) q1 hj'
    have a3':vs[i'*es+j']? =some u:=by simpa using a3
    rw[hget _ (by omega)]at a3'
    exact (b8 i' e j' x' u q2 a2 (by simpa using a3')).keep hk,b9,by omega⟩) (fun _ _=>hszr)
   exact ⟨_,_,ν,F,hrun',.junk _,r1,zl.refl ν,fun j hj=>absurd rfl hj,r2⟩
section
variable [Laid] {nt p:Nat}
theorem zMp (env:Env P T) {ops:Array Oper} {k:Nat} {tm:List (Nat×G)} {hp:List (Nat×Option Blk)} {n:Nat} {Q:Exit->St->Prop} {x:Operand} {t el:TypeId} {te ee:TyE} {b es i m ty fz:Nat} {α:Type} {df:α} {cs:α->List D} {xs:List α}
 (hq:GWO P nt p ops (k+1) ⟨tm,(b,some (.row ty es df cs (xs.take i) fz))::hp,n⟩ Q) (hp':fz<=i/\i<=xs.length) (hok:ops[k]? =some o:=by rfl) (ho:o.op= .call {callee:= .builtin .clear,args:= #[x],argTypes:= #[t]} :=by rfl) (hod:o.dst=none:=by rfl) (hog:o.guard=none:=by rfl)
 (h1:zM T t=some te:=by rfl) (hd:te.desc= .slice el:=by rfl) (h2:zM T el=some ee:=by rfl) (hz1:zu ee.zero=true:=by rfl) (hzs:Nat.beq ee.zero.cells.size ee.size=true:=by rfl) (hx:St.ev ⟨tm,hp,n⟩ x= .sl b es i m:=by rfl) (hb:look hp zU b=some (.row ty es df cs xs fz):=by rfl) (hse:Nat.beq ee.size es=true:=by rfl) (hbn:Nat.blt b n=true:=by rfl) (hg:zt ops nt=true:=by kernel_rfl):
 GWO P nt p ops k ⟨tm,hp,n⟩ Q:=by
 intro ro ν0 F0 w0 H0 l0 ν F a w hr hl he hpn
 have hk:k<ops.size:=(Array.getElem?_eq_some_iff.1 hok).1
 have hbl:b<n:=by simpa using hbn
 have e:List.range' k (ops.size-k)=List.range' k [o].length++List.range' (k+1) (ops.size-(k+1)):=by
  have:=List.range'_append_1 (s:=k) (m:=1) (n:=ops.size-(k+1))
  rw[show [o].length=1 from rfl,this];congr 1;omega
 have hdrop:ops.toList.drop k= [o]++ops.toList.drop (k+1):=by
  have h3:ops.toList[k]? =some o:=by simpa using hok
  obtain ⟨h4,h5⟩:=List.getElem?_eq_some_iff.1 h3
  rw[List.drop_eq_getElem_cons h4,h5];rfl
 rw[e]
 have hs:SOK P ops nt ⟨tm,hp,n⟩ o ⟨true,St.ev ⟨tm,hp,n⟩, {g:= .junk,upd:=[(b,some (.row ty es df cs (xs.take i) fz))],fp:=[b]},.junk⟩:=by
  refine ⟨by simp[YM,hog],fun x _ ν F w v _ h=> ?_,fun _=>zLo env.ty ho h1 hd h2 hz1 hzs hx hb hse hp',.inr (.inr rfl),.inl rfl,fun j hj=> ?_,fun j hj=> ?_,fun j hj=> ?_,fun j hj=> ?_,fun d hd'=> ?_⟩
  ·exact h
  ·simpa [ZG]using hj
  ·simp at hj
  ·have:j=b:=by simpa using hj
   rw[this];exact hbl
  ·simp at hj
  ·rw[hod]at hd';cases hd'
 exact YX (Q:=fun σ=>σ=⟨tm,(b,some (.row ty es df cs (xs.take i) fz))::hp,n⟩) (H0:=St.H ⟨tm,hp,n⟩) hg (fun σ' ν' F' a' w' q r e p=>by subst q;exact hq ro ν0 F0 w0 H0 l0 ν' F' a' w' r (hl.evo hr.rel e) (he.trans e) (hpn.trans p he.size)) _ _ [] k ⟨_,hdrop⟩ (.cons _ _ _ _ _ hs (.nil _ _ (by simp[St.app,hod]))) ν F a w hr (Evo.refl _ _ _ _) (Pin.refl _ _ _ _)
end
end Go.Gh
namespace Go.Gh
open Go Go.RowKit
set_option linter.unusedVariables false
theorem zSk [Laid] {P:Program} {f:FuncId} {fn:Func} {c:Code} (hf:P.funcs[f]? =some fn) (hb:fn.body=some c) (hname:(fn.name== "runtime.NumGoroutine")=false) {ty es:Nat} {α:Type} (df:α) (cs:α→List D) {args:List G} {vs:Array Value} (hargs:∀ν F w us,VRs ν F w args us→us=vs)
 (h:∀w:World,Calls P f vs w fun e w'=>(e= .returned (.slice none 0 0)/\w'=w)∨∃cap arr,e= .returned (.slice (some ⟨w.heap.size,0,none⟩) 0 cap)/\w'=w.drew.alloc (.cells arr ty)/\cap<=maxLen/\arr.size=cap*es/\∀u,u∈arr.toList->u.oneCell'=true):
 GM P f args [] (.sl 0 es 0 0) [some (.row ty es df cs [] 0)]:=by
 refine ⟨⟨fn,c,hf,hb,hname⟩,fun ν F w us hr hν hv=> ?_⟩
 have hvs:=hargs ν F w us hv
 subst hvs
 have hn:∀i,ν i=none:=fun i=>hν i (Nat.zero_le _)
 have hH:hpF ([]:List Blk)=fun _=>none:=rfl
 have eR:look [(0,some (Blk.row ty es df cs [] 0))] (hpF [])=hpR [some (Blk.row ty es df cs [] 0)]:=by
  funext i
  match i with
  |0=>rfl
  |i+1=>rfl
 refine (h w).mono fun e w' hc=> ?_
 rcases hc with ⟨rfl,rfl⟩|⟨cap,arr,rfl,rfl,h1,h2,h3⟩
 ·refine ⟨ν,F,_,rfl,.sl _ _ _ _ _ _ (fun h=>absurd h (Nat.lt_irrefl _)) (fun _ _=> .inr ⟨rfl,rfl⟩) (Nat.le_refl _),⟨fun i j r k k' _ _ e=>(by rw[hn i]at e;cases e),fun i b hi=> ?_,hr.old,hr.glob⟩,fun _ _=>rfl,fun i _=>hn i,⟨Keep.refl _ _,rfl,rfl,rfl,Nat.le_refl _,fun _ _ _=>rfl,fun r ⟨i,k,_,e⟩=>(by rw[hn i]at e;cases e),fun _ _ h=> .inl h⟩⟩
  match i with
  |0=>cases hi;exact .inl ⟨hn 0,rfl,rfl⟩
  |i+1=>simp[hpR]at hi
 ·have hbr:BR (yD ν 0 w.drew.heap.size cap) F (w.drew.alloc (.cells arr ty)) (some (w.drew.heap.size,cap)) (.row ty es df cs [] 0):=
   .inr ⟨_,_,arr,rfl,heap_alloc_new w.drew _,h1,h2,Nat.zero_le _,fun e he=>(by cases he),h3,fun i e j x u a=>(by simp at a),fun o=>⟨fun ho=>(by have:=hr.old_lt ho;exact absurd this (Nat.lt_irrefl _)),fun ho=>(by simp at ho)⟩,Nat.le_refl _⟩
  obtain ⟨r1,r2⟩:=hr.drew.add (hn 0) rfl _ hbr
  rw[eR]at r1 r2
  refine ⟨_,F,_,rfl,.sl _ _ _ _ _ _ (fun h=>absurd h (Nat.lt_irrefl _)) (fun _ _=> .inl ⟨w.heap.size,cap,zc _ _ _ _,rfl,rfl⟩) (Nat.zero_le _),r1,fun i hi=>absurd hi (Nat.not_lt_zero _),fun i hi=> ?_,Evo.drew r2⟩
  have:i≠0:=by have:1<=i:=hi;omega
  rw[zS ν this];exact hn i
end Go.Gh
namespace Go.Gh
open Go Go.RowKit
set_option linter.unusedVariables false
theorem zSq [Laid] {P:Program} {f:FuncId} {args:List G} {ty es:Nat} {α:Type} {df:α} {cs:α->List D} {xs:List α} (h:GM P f args [] (.sl 0 es 0 xs.length) [some (.row ty es df cs xs 0)]) (ha:G.ltL 0 args=true):GC P f args (.d (.row df cs xs)):=by
 refine ⟨h.1,fun ν F w H vs hr hv=> ?_⟩
 simp only[Zw,List.all_eq_true]at ha
 have r0:Rel (fun _=>none) F w (hpF []):=⟨fun i j r k k' _ _ e=>(by cases e),fun i b hi=>(by simp[hpF]at hi),hr.old,hr.glob⟩
 refine (h.2 (fun _=>none) F w vs r0 (fun _ _=>rfl) ⟨hv.1,fun j g' u a b=>(hv.2 j g' u a b).closed (ha g' (List.mem_of_getElem? a))⟩).mono fun e w' ⟨ν',F',v,he,h1,h2,h3,h4,h5⟩=> ?_
 obtain ⟨F2,r1,k1,e1,f1⟩:=h2.freeze (H:=hpR [some (Blk.row ty es df cs xs 0)]) (b:=0) rfl
 have hd:DR F2 w' (.row df cs xs) v:=row_data (h2.blk 0 (.row ty es df cs xs 0) rfl) k1 f1 h1
 have hm0:∀r,¬jf (fun _=>none) (hpF []) r:=fun r ⟨i,k,_,e⟩=>by cases e
 have hk:Keep F w F2 w':=h5.keep.trans k1
 have hfr:∀r,r<w.heap.size->w'.heap[r]? =w.heap[r]? :=fun r hr'=>h5.frame r hr' (hm0 r)
 have hfz:∀b o,F2 b o->F b o∨w.heap.size<=b:=fun b o ho=>by
  rcases e1.fz b o ho with h|h|h
  ·rcases h5.fz b o h with h|h|h
   ·exact .inl h
   ·exact absurd h (hm0 b)
   ·exact .inr h
  ·rcases h5.mine b h with h|h
   ·exact absurd h (hm0 b)
   ·exact .inr h
  ·exact .inr (Nat.le_trans h5.size h)
 refine ⟨F2,v,he,.d hd,⟨hr.inj,fun i b hi=>(hr.blk i b hi).keep hk (zl.refl _) (fun r k e=>hfr r (hr.mine_lt ⟨i,k,by rw[hi];rfl,e⟩)) (fun r k e o=>⟨fun ho=> ?_,fun ho=>hk.sub _ _ ho⟩),r1.old,hr.glob.keep hk⟩,
  ⟨hk,h5.os,h5.tape,h5.output,h5.size,fun r hr' _=>hfr r hr',fun r hm=> .inl hm,fun b o ho=>(hfz b o ho).elim .inl fun h=> .inr (.inr h)⟩⟩
 rcases hfz r o ho with h|h
 ·exact h
 ·exact absurd (hr.mine_lt ⟨i,k,by rw[hi];rfl,e⟩) (by omega)
end Go.Gh
namespace Go.Gh
open Go Go.RowKit
set_option linter.unusedSimpArgs false
set_option linter.unusedVariables false
section
variable {P:Program} {T:Tab} {o:Oper} {ρ:Operand->G} {H:Hp}
theorem zUe (F:Fz) (w:World) (s:ByteArray):FR F w 1 (yp s) (byteCells s):=by
 refine ⟨by simp[byteCells,yp],fun u hu=> ?_,fun i e he=> ?_,fun i e j x u a b c=> ?_⟩
 ·obtain ⟨_,_,rfl⟩:=List.mem_map.1 hu;rfl
 ·simp only[yp,List.getElem?_map]at he
  cases hx:s.data.toList[i]? with
  |none=>rw[hx]at he;cases he
  |some y=>rw[hx]at he;cases he;rfl
 ·simp only[yp,List.getElem?_map]at a
  simp only[byteCells,List.getElem?_map]at c
  cases hx:s.data.toList[i]? with
  |none=>rw[hx]at a;cases a
  |some y=>
   rw[hx]at a;cases a
   match j with
   |0=>cases b;rw[Nat.mul_one,Nat.add_zero,hx]at c;cases c;exact .sc _ rfl
   |j+1=>cases b
theorem VG [Laid] {x y:Operand} {t tx:TypeId} (hT:za P T) (ho:o.op= .call {callee:= .builtin .append,args:= #[x,y],argTypes:= #[t,tx]}) {te xe ee:TyE} (h1:zM T t=some te) (h2:zM T tx=some xe) {el:TypeId} (hd1:te.desc= .slice el) (hd2:xe.desc= .string)
 (h3:zM T el=some ee) (hsz:Nat.beq ee.size 1=true) (hbs:Nat.beq ee.bytes 1=true) (hz1:zu ee.zero=true) (hzs:Nat.beq ee.zero.cells.size 1=true)
 {prd:Prop} {Ld:List (List D)} {n:Nat} {ob:Option Nat} {fz:Nat} {fpd:List Nat} (hd:VX el 1 (ρ x) H=some (prd,Ld,n,ob,fz)) (hpd:prd) {s:ByteArray} (hs:ρ y= .d (.sc (.string s)))
 {α:Type} {df:α} {cs:α->List D} {zs:List α} (hbound:n+s.size<=140737488355328) (hzl:zR cs zs=Ld++yp s) (hlen:zs.length=n+s.size) (nx:Nat)
 (hfd:∀b,ob=some b->b∈fpd):
 LOp P o ρ H {g:= .sl nx 1 0 (n+s.size),upd:=(nx,some (.row el 1 df cs zs fz))::Ju ob,fp:=fpd,new:=[nx]} :=by
 have kt:=hT _ _ h1
 have kx:=hT _ _ h2
 have ke:=hT _ _ h3
 have hsz:=Nat.eq_of_beq_eq_true hsz
 have hbs:=Nat.eq_of_beq_eq_true hbs
 have hzs:=Nat.eq_of_beq_eq_true hzs
 intro H' hf hn
 refine YH fun ν F w a hv hr hnew=> ?_
 have hd':VX el ee.size (ρ x) H'=some (prd,Ld,n,ob,fz):=by
  rw[hsz]
  unfold VX at hd⊢
  split at hd
  ·exact hd
  ·rename_i b es1 n1 hρ
   split at hd
   ·rename_i β ty' es' df' cs' xs fz' hH
    simp only[Option.some.injEq,Prod.mk.injEq]at hd
    have:H' b=H b:=hf b (by simp[hfd b hd.2.2.2.1.symm])
    rw[this,hH]
    simp only[Option.some.injEq,Prod.mk.injEq]
    exact hd
   ·cases hd
  ·cases hd
 have hye:a.eval y= .string s:=by
  have:=hv y (by simp[ho,Op.operands,Call.operands])
  rw[hs]at this
  exact this.sc_eq.1
 have hsrc:Src P ee.size tx (a.eval y) s.size (byteCells s) w:=by
  rw[hye,hsz];exact Src.ofString w (by rw[kx.1,hd2]) s
 obtain ⟨v',w',ν',F',r1,r2,r3,r4,r5,r6⟩:=JI hr (by rw[kt.1,hd1]) ke (by omega) (by omega) hz1 (by omega) hd' hpd (hv x (by simp[ho,Op.operands,Call.operands])) (ty:=o.type) hsrc (Ls:=yp s) (by rw[hsz];exact zUe F w s) (by rw[hbs];omega) (df:=df) hzl hlen (hnew nx (by simp)) (hn nx (by simp))
 rw[hsz]at r2 r3 r6
 refine ⟨v',w',ν',F',Zs ho a w w' v' Builtin.append_ (fun _ _=>rfl) (by simpa using r1),r2,r3,r4,fun i hi=>by simp[r5 i hi],r6⟩
end
section
variable [Laid] {P:Program} {T:Tab} {nt p:Nat} {o:Oper}
theorem zBh (env:Env P T) {ops:Array Oper} {k d:Nat} {tm:List (Nat×G)} {hp:List (Nat×Option Blk)} {n:Nat} {Q:Exit->St->Prop} {x y:Operand} {t tx el:TypeId} {te xe ee:TyE} {b m fz:Nat} {α:Type} {df:α} {cs:α->List D} {xs:List α} (zs:List α) {s:ByteArray}
 (hq:GWO P nt p ops (k+1) ⟨(d,.sl n 1 0 zs.length)::tm,(n,some (.row el 1 df cs zs fz))::(b,none)::hp,n+1⟩ Q) (hzl:zR cs zs=zR cs xs++yp s) (hm:m=xs.length) (hbound:xs.length+s.size<=140737488355328)
 (hok:ops[k]? =some o:=by rfl) (ho:o.op= .call {callee:= .builtin .append,args:= #[x,y],argTypes:= #[t,tx]} :=by rfl) (hod:o.dst=some d:=by rfl) (hdn:Nat.blt d nt=true:=by rfl) (hog:o.guard=none:=by rfl)
 (h1:zM T t=some te:=by rfl) (h2:zM T tx=some xe:=by rfl) (hd1:te.desc= .slice el:=by rfl) (hd2:xe.desc= .string:=by rfl) (h3:zM T el=some ee:=by rfl) (hsz:Nat.beq ee.size 1=true:=by rfl) (hbs:Nat.beq ee.bytes 1=true:=by rfl) (hz1:zu ee.zero=true:=by rfl) (hzs:Nat.beq ee.zero.cells.size 1=true:=by rfl)
 (hx:St.ev ⟨tm,hp,n⟩ x= .sl b 1 0 m:=by rfl) (hy:St.ev ⟨tm,hp,n⟩ y= .d (.sc (.string s)):=by rfl) (hb:look hp zU b=some (.row el 1 df cs xs fz):=by rfl) (hbn:Nat.blt b n=true:=by rfl) (hg:zt ops nt=true:=by kernel_rfl):
 GWO P nt p ops k ⟨tm,hp,n⟩ Q:=by
 intro ro ν0 F0 w0 H0 l0 ν F a w hr hl he hpn
 have hk:k<ops.size:=(Array.getElem?_eq_some_iff.1 hok).1
 have hbl:b<n:=by simpa using hbn
 have hdl:d<nt:=by simpa using hdn
 subst hm
 have hlen:zs.length=xs.length+s.size:=by
  have h4:=congrArg List.length hzl
  simp only[zR,List.length_map,List.length_append,yp]at h4
  have:s.data.toList.length=s.size:=by rw[Array.length_toList];rfl
  omega
 have e:List.range' k (ops.size-k)=List.range' k [o].length++List.range' (k+1) (ops.size-(k+1)):=by
  have:=List.range'_append_1 (s:=k) (m:=1) (n:=ops.size-(k+1))
  rw[show [o].length=1 from rfl,this];congr 1;omega
 have hdrop:ops.toList.drop k= [o]++ops.toList.drop (k+1):=by
  have h3:ops.toList[k]? =some o:=by simpa using hok
  obtain ⟨h4,h5⟩:=List.getElem?_eq_some_iff.1 h3
  rw[List.drop_eq_getElem_cons h4,h5];rfl
 rw[e]
 have hdst:VX el 1 (St.ev ⟨tm,hp,n⟩ x) (St.H ⟨tm,hp,n⟩)=some ((1=1/\1=1/\xs.length=xs.length/\el=el),zR cs xs,xs.length,some b,fz):=by
  rw[hx]
  unfold VX
  show (match look hp zU b with|some (.row ty es' df cs xs' fz)=>some _|_=>none)=_
  rw[hb]
 have hop:LOp P o (St.ev ⟨tm,hp,n⟩) (St.H ⟨tm,hp,n⟩) {g:= .sl n 1 0 (xs.length+s.size),upd:=[(n,some (.row el 1 df cs zs fz)),(b,none)],fp:=[b],new:=[n]} :=
  VG env.ty ho h1 h2 hd1 hd2 h3 hsz hbs hz1 hzs (fpd:=[b]) hdst ⟨rfl,rfl,rfl,rfl⟩ hy hbound hzl hlen n (fun b' hb'=>by cases hb';simp)
 have hs:SOK P ops nt ⟨tm,hp,n⟩ o ⟨true,St.ev ⟨tm,hp,n⟩, {g:= .sl n 1 0 (xs.length+s.size),upd:=[(n,some (.row el 1 df cs zs fz)),(b,none)],fp:=[b],new:=[n]},.sl n 1 0 (xs.length+s.size)⟩:=by
  refine ⟨by simp[YM,hog],fun x _ ν F w v _ h=>h,fun _=>hop,.inl ⟨rfl,rfl⟩,.inl rfl,fun j hj=> ?_,fun j hj=> ?_,fun j hj=> ?_,fun j hj=> ?_,fun d' hd'=> ?_⟩
  ·simp[ZG]at hj
   rcases hj with rfl|rfl
   ·exact .inr (by simp)
   ·exact .inl (by simp)
  ·have:j=n:=by simpa using hj
   rw[this];exact ⟨Nat.le_refl _,by simp⟩
  ·have:j=b:=by simpa using hj
   rw[this];exact hbl
  ·have:j=n:=by simpa using hj
   rw[this];simp[ZG]
  ·rw[hod]at hd';cases hd';exact hdl
 rw[hlen]at hq
 exact YX (Q:=fun σ=>σ=⟨(d,.sl n 1 0 (xs.length+s.size))::tm,(n,some (.row el 1 df cs zs fz))::(b,none)::hp,n+1⟩) (H0:=St.H ⟨tm,hp,n⟩) hg (fun σ' ν' F' a' w' q r e p=>by subst q;exact hq ro ν0 F0 w0 H0 l0 ν' F' a' w' r (hl.evo hr.rel e) (he.trans e) (hpn.trans p he.size)) _ _ [] k ⟨_,hdrop⟩ (.cons _ _ _ _ _ hs (.nil _ _ (by simp[St.app,hod]))) ν F a w hr (Evo.refl _ _ _ _) (Pin.refl _ _ _ _)
end
end Go.Gh
namespace Go.Gh
open Go Go.RowKit
set_option linter.unusedSimpArgs false
set_option linter.unusedVariables false
section
variable {P:Program} {T:Tab} {o:Oper} {ρ:Operand->G} {H:Hp}
theorem zFi [Laid] {t:TypeId} (hT:za P T) (ho:o.op= .alloc t) {e:TyE} (te:zM T t=some e) (nx:Nat):
 LOp P o ρ H {g:= .ptr nx 0 0 0,upd:=[(nx,some (.tbx t e.zero.cells.toList))],new:=[nx]} :=by
 intro H' _ hn
 refine YH fun ν F w a hv hr hnew=> ?_
 have hν:=hnew nx (by simp)
 have hrun:(execOp a.eval o).run P w= .ok (.value (.pointer (some ⟨w.heap.size,0,none⟩))) (w.alloc (.cells e.zero.cells t)):=by
  have:=(hT _ _ te).zeroV w
  have k:=jj (P:=P) t e.zero w
  simp only[Sem.run_bind,Sem.run_pure]at k
  simp only[execOp,ho,Instr.alloc,Sem.run_bind,this,Result.andThen_ok,k,Sem.run_pure]
 have hbr:BR (yD ν nx w.heap.size 0) F (w.alloc (.cells e.zero.cells t)) (some (w.heap.size,0)) (.tbx t e.zero.cells.toList):=
  ⟨_,_,rfl,by simpa using heap_alloc_new w _,fun o ho=>by have:=hr.old_lt ho;omega⟩
 obtain ⟨h1,h2⟩:=hr.add hν (hn nx (by simp)) _ hbr
 refine ⟨_,_,yD ν nx w.heap.size 0,F,hrun,?_,h1,zl.add hν,fun i hi=> ?_,h2⟩
 ·have:=VR.ptr (F:=F) (w:=w.alloc (.cells e.zero.cells t)) nx 0 0 0 w.heap.size 0 (zc ν nx w.heap.size 0)
  simpa using this
 ·by_cases e:i=nx
  ·simp[e]
  ·exact absurd (zS ν e) hi
end
section
variable [Laid] {P:Program} {T:Tab} {nt p:Nat} {o:Oper}
theorem zFo (env:Env P T) {ops:Array Oper} {k d:Nat} {tm:List (Nat×G)} {hp:List (Nat×Option Blk)} {n:Nat} {Q:Exit->St->Prop} {t:TypeId} {e:TyE} {vs:List Value}
 (hq:GWO P nt p ops (k+1) ⟨(d,.ptr n 0 0 0)::tm,(n,some (.tbx t vs))::hp,n+1⟩ Q) (hok:ops[k]? =some o:=by rfl) (ho:o.op= .alloc t:=by rfl) (hod:o.dst=some d:=by rfl) (hdn:Nat.blt d nt=true:=by rfl) (hog:o.guard=none:=by rfl)
 (te:zM T t=some e:=by rfl) (hv:e.zero.cells.toList=vs:=by rfl) (hg:zt ops nt=true:=by kernel_rfl):
 GWO P nt p ops k ⟨tm,hp,n⟩ Q:=by
 subst hv
 intro ro ν0 F0 w0 H0 l0 ν F a w hr hl he hpn
 have hk:k<ops.size:=(Array.getElem?_eq_some_iff.1 hok).1
 have hdl:d<nt:=by simpa using hdn
 have e1:List.range' k (ops.size-k)=List.range' k [o].length++List.range' (k+1) (ops.size-(k+1)):=by
  have:=List.range'_append_1 (s:=k) (m:=1) (n:=ops.size-(k+1))
  rw[show [o].length=1 from rfl,this];congr 1;omega
 have hdrop:ops.toList.drop k= [o]++ops.toList.drop (k+1):=by
  have h3:ops.toList[k]? =some o:=by simpa using hok
  obtain ⟨h4,h5⟩:=List.getElem?_eq_some_iff.1 h3
  rw[List.drop_eq_getElem_cons h4,h5];rfl
 rw[e1]
 have hs:SOK P ops nt ⟨tm,hp,n⟩ o ⟨true,St.ev ⟨tm,hp,n⟩, {g:= .ptr n 0 0 0,upd:=[(n,some (.tbx t e.zero.cells.toList))],new:=[n]},.ptr n 0 0 0⟩:=by
  refine ⟨by simp[YM,hog],fun x _ ν F w v _ h=>h,fun _=>zFi env.ty ho te n,.inl ⟨rfl,rfl⟩,.inl rfl,fun j hj=> ?_,fun j hj=> ?_,fun j hj=> ?_,fun j hj=> ?_,fun d' hd'=> ?_⟩
  ·simp[ZG]at hj
   exact .inr (by simp[hj])
  ·have:j=n:=by simpa using hj
   rw[this];exact ⟨Nat.le_refl _,by simp⟩
  ·simp at hj
  ·have:j=n:=by simpa using hj
   rw[this];simp[ZG]
  ·rw[hod]at hd';cases hd';exact hdl
 exact YX (Q:=fun σ=>σ=⟨(d,.ptr n 0 0 0)::tm,(n,some (.tbx t e.zero.cells.toList))::hp,n+1⟩) (H0:=St.H ⟨tm,hp,n⟩) hg (fun σ' ν' F' a' w' q r e p=>by subst q;exact hq ro ν0 F0 w0 H0 l0 ν' F' a' w' r (hl.evo hr.rel e) (he.trans e) (hpn.trans p he.size)) _ _ [] k ⟨_,hdrop⟩ (.cons _ _ _ _ _ hs (.nil _ _ (by simp[St.app,hod]))) ν F a w hr (Evo.refl _ _ _ _) (Pin.refl _ _ _ _)
end
section
variable [Laid] {P:Program} {T:Tab} {nt p:Nat} {o:Oper}
theorem zBi (env:Env P T) {ops:Array Oper} {k d:Nat} {tm:List (Nat×G)} {hp:List (Nat×Option Blk)} {n:Nat} {Q:Exit->St->Prop} {x y:Operand} {t tx el:TypeId} {te xe ee:TyE} {α:Type} {df:α} {cs:α->List D} (zs:List α) {s:ByteArray}
 (hq:GWO P nt p ops (k+1) ⟨(d,.sl n 1 0 zs.length)::tm,(n,some (.row el 1 df cs zs 0))::hp,n+1⟩ Q) (hzl:zR cs zs=yp s) (hbound:s.size<=140737488355328)
 (hok:ops[k]? =some o:=by rfl) (ho:o.op= .call {callee:= .builtin .append,args:= #[x,y],argTypes:= #[t,tx]} :=by rfl) (hod:o.dst=some d:=by rfl) (hdn:Nat.blt d nt=true:=by rfl) (hog:o.guard=none:=by rfl)
 (h1:zM T t=some te:=by rfl) (h2:zM T tx=some xe:=by rfl) (hd1:te.desc= .slice el:=by rfl) (hd2:xe.desc= .string:=by rfl) (h3:zM T el=some ee:=by rfl) (hsz:Nat.beq ee.size 1=true:=by rfl) (hbs:Nat.beq ee.bytes 1=true:=by rfl) (hz1:zu ee.zero=true:=by rfl) (hzs:Nat.beq ee.zero.cells.size 1=true:=by rfl)
 (hx:St.ev ⟨tm,hp,n⟩ x= .d (.sc (.slice none 0 0)):=by rfl) (hy:St.ev ⟨tm,hp,n⟩ y= .d (.sc (.string s)):=by rfl) (hg:zt ops nt=true:=by kernel_rfl):
 GWO P nt p ops k ⟨tm,hp,n⟩ Q:=by
 intro ro ν0 F0 w0 H0 l0 ν F a w hr hl he hpn
 have hk:k<ops.size:=(Array.getElem?_eq_some_iff.1 hok).1
 have hdl:d<nt:=by simpa using hdn
 have hlen:zs.length=0+s.size:=by
  have h4:=congrArg List.length hzl
  simp only[zR,List.length_map,List.length_append,yp]at h4
  have:s.data.toList.length=s.size:=by rw[Array.length_toList];rfl
  omega
 have e:List.range' k (ops.size-k)=List.range' k [o].length++List.range' (k+1) (ops.size-(k+1)):=by
  have:=List.range'_append_1 (s:=k) (m:=1) (n:=ops.size-(k+1))
  rw[show [o].length=1 from rfl,this];congr 1;omega
 have hdrop:ops.toList.drop k= [o]++ops.toList.drop (k+1):=by
  have h3:ops.toList[k]? =some o:=by simpa using hok
  obtain ⟨h4,h5⟩:=List.getElem?_eq_some_iff.1 h3
  rw[List.drop_eq_getElem_cons h4,h5];rfl
 rw[e]
 have hdst:VX el 1 (St.ev ⟨tm,hp,n⟩ x) (St.H ⟨tm,hp,n⟩)=some (True,[],0,none,0):=by rw[hx];rfl
 have hop:LOp P o (St.ev ⟨tm,hp,n⟩) (St.H ⟨tm,hp,n⟩) {g:= .sl n 1 0 (0+s.size),upd:=[(n,some (.row el 1 df cs zs 0))],fp:=[],new:=[n]} :=
  VG env.ty ho h1 h2 hd1 hd2 h3 hsz hbs hz1 hzs (fpd:=[]) hdst trivial hy (by omega) (by rw[hzl];rfl) hlen n (fun b' hb'=>by cases hb')
 have hs:SOK P ops nt ⟨tm,hp,n⟩ o ⟨true,St.ev ⟨tm,hp,n⟩, {g:= .sl n 1 0 (0+s.size),upd:=[(n,some (.row el 1 df cs zs 0))],fp:=[],new:=[n]},.sl n 1 0 (0+s.size)⟩:=by
  refine ⟨by simp[YM,hog],fun x _ ν F w v _ h=>h,fun _=>hop,.inl ⟨rfl,rfl⟩,.inl rfl,fun j hj=> ?_,fun j hj=> ?_,fun j hj=> ?_,fun j hj=> ?_,fun d' hd'=> ?_⟩
  ·simp[ZG]at hj
   exact .inr (by simp[hj])
  ·have:j=n:=by simpa using hj
   rw[this];exact ⟨Nat.le_refl _,by simp⟩
  ·simp at hj
  ·have:j=n:=by simpa using hj
   rw[this];simp[ZG]
  ·rw[hod]at hd';cases hd';exact hdl
 rw[hlen]at hq
 exact YX (Q:=fun σ=>σ=⟨(d,.sl n 1 0 (0+s.size))::tm,(n,some (.row el 1 df cs zs 0))::hp,n+1⟩) (H0:=St.H ⟨tm,hp,n⟩) hg (fun σ' ν' F' a' w' q r e p=>by subst q;exact hq ro ν0 F0 w0 H0 l0 ν' F' a' w' r (hl.evo hr.rel e) (he.trans e) (hpn.trans p he.size)) _ _ [] k ⟨_,hdrop⟩ (.cons _ _ _ _ _ hs (.nil _ _ (by simp[St.app,hod]))) ν F a w hr (Evo.refl _ _ _ _) (Pin.refl _ _ _ _)
end
section
variable {P:Program} {nt p:Nat}
theorem zYo [Laid] (b:Nat) {tm tm':List (Nat×G)} {hp hp':List (Nat×Option Blk)} {n:Nat} {ops:Array Oper} {q:Nat} {Q:Exit->St->Prop} {ps ps':List Prop} (h:GWO P nt p ops q ⟨tm',hp',n⟩ Q) (ho:zWg b tm hp=some (ps,tm',hp'):=by rfl) (hf:nfP ps=some ps':=by rfl) (hps:zC ps':=by first|trivial|simp[zC]):GWO P nt p ops q ⟨tm,hp,n⟩ Q:=by
 intro ro ν0 F0 w0 H0 l0 ν F a w hr hl he hpn
 have hps:=ZY hf▸hps
 unfold zWg at ho
 split at ho
 ·rename_i α ty es df cs xs fz hb
  split at ho
  ·rename_i p1 tm1 p2 hp1 h1 h2
   split at ho
   ·rename_i hp2 hnf
    cases ho
    obtain ⟨q1,q2⟩:=Ze hps
    obtain ⟨F',r1,k1,e1,f1⟩:=hr.rel.freeze (H:=look hp zU) hb
    have hd:∀v,VR ν F w (.sl b es 0 xs.length) v->DR F' w (.row df cs xs) v:=fun v hv=>row_data (hr.rel.blk b _ hb) k1 f1 hv
    have hlk:=fun i=>XH (ν:=ν) k1 hd h2 q2 i
    have hH:look hp' zU=look hp1 zU:=Je hnf
    have hsub:∀i,(look hp1 zU i).isSome=true->i≠b/\(look hp zU i).isSome=true:=fun i hi=>by
     rcases hlk i with (⟨_,h⟩|⟨h,h',_⟩)|⟨_,h⟩
     ·rw[h]at hi;cases hi
     ·exact ⟨h,by rw[<-h'];exact hi⟩
     ·rw[h]at hi;cases hi
    have hFF:∀i,i≠b->(look hp zU i).isSome=true->∀r k,ν i=some (r,k)->∀o,F' r o↔F r o:=fun i hi hs r k e o=>by
     refine ⟨fun ho=> ?_,fun ho=>k1.sub _ _ ho⟩
     obtain ⟨bl,hbl⟩:=Option.isSome_iff_exists.1 hs
     have hbl':look [(b,some (Blk.row ty es df cs xs xs.length))] (look hp zU) i=some bl:=by rw[ZB hi];exact hbl
     have b1:=r1.blk i bl hbl'
     have b0:=hr.rel.blk i bl hbl
     rw[e]at b0 b1
     cases bl with
     |box cells=>
      obtain ⟨_,_,_,_,e2,_,_,_,_,g5⟩:=b1
      cases e2;exact absurd ho (g5 o)
     |row ty es df cs xs fz=>
      rcases b1 with ⟨e2,_⟩|⟨_,_,_,e2,_,_,_,_,_,_,_,g7,_⟩
      ·cases e2
      ·rcases b0 with ⟨e3,_⟩|⟨_,_,_,e3,_,_,_,_,_,_,_,g7',_⟩
       ·cases e3
       ·cases e2;cases e3;exact (g7' o).2 ((g7 o).1 ho)
     |mp L=>
      obtain ⟨_,_,_,_,e2,_,_,_,g5⟩:=b1
      cases e2;exact absurd ho (g5 o)
     |tbx T vs=>
      obtain ⟨_,_,e2,_,g5⟩:=b1
      cases e2;exact absurd ho (g5 o)
    have hkey:RS ⟨tm',hp',n⟩ ν F' a w nt p/\Evo ν F w (look hp zU) ν F' w (look hp' zU):=by
     refine ⟨⟨hr.pin,fun t=>Hg k1 hd h1 q1 (hr.vals t),?_,hr.defers,hr.free,hr.size,fun i hi=> ?_⟩,?_⟩
     ·show Rel ν F' w (look hp' zU)
      rw[hH]
      refine ⟨fun i j r ki kj hi hj ei ej=>hr.rel.inj i j r ki kj (hsub i hi).2 (hsub j hj).2 ei ej,fun i bl hi=> ?_,r1.old,r1.glob⟩
      obtain ⟨s1,s2⟩:=hsub i (by rw[hi];rfl)
      rcases hlk i with (⟨_,h⟩|⟨_,h',h''⟩)|⟨h,h'⟩
      ·rw[h]at hi;cases hi
      ·obtain ⟨bl0,hbl0⟩:=Option.isSome_iff_exists.1 s2
       exact h'' bl0 bl hbl0 hi (hFF i s1 s2) (hr.rel.blk i bl0 hbl0)
      ·rw[h']at hi;cases hi
     ·show look hp' zU i=none
      rw[hH]
      have:=hr.fresh i hi
      cases hx:look hp1 zU i with
      |none=>rfl
      |some bl=>
       have:=(hsub i (by rw[hx];rfl)).2
       rw[show look hp zU i=none from hr.fresh i hi]at this
       cases this
     ·show Evo ν F w (look hp zU) ν F' w (look hp' zU)
      rw[hH]
      refine ⟨k1,rfl,rfl,rfl,Nat.le_refl _,fun _ _ _=>rfl,fun r ⟨i,k,hi,e⟩=> .inl ⟨i,k,(hsub i hi).2,e⟩,fun b' o ho=> ?_⟩
      rcases e1.fz b' o ho with h|⟨i,k,hi,e⟩|h
      ·exact .inl h
      ·refine .inr (.inl ⟨i,k,?_,e⟩)
       exact hi
      ·exact .inr (.inr h)
    exact h ro ν0 F0 w0 H0 l0 ν F' a w hkey.1 hl (he.trans hkey.2) hpn
   ·cases ho
  ·cases ho
 ·cases ho
end
def wA (d d':D):Prop:=∀(F:Fz) (w:World) (v:Value),DR F w d v->DR F w d' v
theorem wA.refl (d:D):wA d d:=fun _ _ _ h=>h
theorem wA.nil {α:Type} {df:α} {cs:α->List D} :wA (.sc (.slice none 0 0)) (.row df cs []):=fun F w v h=>by
 cases h with
 |sc _ _=>exact .row df cs [] none 0 0 0 0 (fun _ _=>undef) (fun h=>absurd rfl h) (Nat.zero_le _) (fun e he=>(by cases he)) (fun i e j x a=>(by simp at a)) (fun i e j x a=>(by simp at a)) (fun i e j x a=>(by simp at a))
def zDa:List D->List D->Prop
 | [],[]=>True
 |a::l,b::l'=>wA a b/\zDa l l'
 |_,_=>False
theorem zDa.at_:∀ {l l':List D},zDa l l'->l.length=l'.length/\∀(j:Nat) d',l'[j]? =some d'->∃d,l[j]? =some d/\wA d d'
 | [],[],_=>⟨rfl,fun j d' h=>by simp at h⟩
 |a::l,b::l',h=>by
  obtain ⟨h1,h2⟩:=zDa.at_ h.2
  refine ⟨by simp[h1],fun j d' hj=> ?_⟩
  cases j with
  |zero=>cases hj;exact ⟨a,rfl,h.1⟩
  |succ j=>exact h2 j d' hj
 | [],_::_,h=>h.elim
 |_::_,[],h=>h.elim
theorem Ent.rowEnt {α:Type} {df df':α} {cs cs':α->List D} {xs:List α} (hh:∀x,x∈xs->zDa (cs x) (cs' x)):Ent (.d (.row df cs xs)) (.d (.row df' cs' xs)):=fun ν F w v hv=>by
 cases hv with
 |d hv=>
  cases hv with
  |row _ _ _ A c b off es val hA hc hl hw hF h=>
   have key:∀(i:Nat) e (j:Nat) x,xs[i]? =some e->(cs' e)[j]? =some x->∃d,(cs e)[j]? =some d/\wA d x:=fun i e j x a q=>(hh e (List.mem_of_getElem? a)).at_.2 j x q
   refine .d (.row df' cs' xs A c b off es val hA hc (fun e he=>by rw[<-(hh e he).at_.1];exact hl e he) (fun i e j x a q=> ?_) (fun i e j x a q=> ?_) (fun i e j x a q=> ?_))
   ·obtain ⟨d,k1,k2⟩:=key i e j x a q;exact hw i e j d a k1
   ·obtain ⟨d,k1,k2⟩:=key i e j x a q;exact hF i e j d a k1
   ·obtain ⟨d,k1,k2⟩:=key i e j x a q;exact k2 _ _ _ (h i e j d a k1)
theorem zRz (a b:Blk):hpR [some a,some b]=hpF [a,b]:=by
 funext i
 match i with
 |0=>rfl
 |1=>rfl
 |i+2=>rfl
theorem zGu {ν:Nu} {F:Fz} {w:World} {g:G} {vs:Array Value} (h:VRs ν F w [g] vs):∃v,vs= #[v]/\VR ν F w g v:=by
 obtain ⟨l⟩:=vs
 match l,h.1 with
 | [a],_=>exact ⟨a,rfl,h.2 0 _ a rfl rfl⟩
theorem ZDy [Laid] {P:Program} {f:FuncId} {fn:Func} {c:Code} {T:Nat} (hf:P.funcs[f]? =some fn) (hb:fn.body=some c) (hname:(fn.name== "runtime.NumGoroutine")=false)
 (h:∀(b:Nat) (w:World),w.cell? ⟨b,0,none⟩=some (.pointer none)->w.shape? b=some (T,2)->w.frozen? ⟨b,0,none⟩=false->Calls P f #[.pointer (some ⟨b,0,none⟩)] w fun e w'=>e= .returned (.tuple #[])/\w'=w.setCell ⟨b,0,none⟩ (.pointer (some ⟨b,0,none⟩))):
 GM P f [.ptr 0 0 0 0] [.tbx T [.pointer none,.slice none 0 0]] (.tup []) [some (.box [.ptr 0 0 0 0,.d (.sc (.slice none 0 0))])]:=by
 refine ⟨⟨fn,c,hf,hb,hname⟩,fun ν F w vs hr hν hv=> ?_⟩
 obtain ⟨v,rfl,hv1⟩:=zGu hv
 obtain ⟨r,k,e,hh,hnF⟩:=hr.blk 0 _ rfl
 obtain ⟨r',k',e',hve⟩:∃r' k',ν 0=some (r',k')/\v= .pointer (some ⟨r',0,none⟩):=by
  cases hv1 with
  |ptr b es i f r k h=>exact ⟨r,k,h,by simp⟩
 rw[e]at e';cases e'
 subst hve
 have hh':w.heap[r]? =some (.cells #[.pointer none,.slice none 0 0] T (0,0)):=hh
 refine (h r w (by simp[World.cell?,hh']) (by simp[World.shape?,hh']) (by simp[World.frozen?,hh'])).mono fun e1 w' ⟨he,hw⟩=> ?_
 have hs:w'.heap[r]? =some (.cells #[.pointer (some ⟨r,0,none⟩),.slice none 0 0] T (0,0)):=by
  rw[hw,heap_setCell_same w r 0 _ T _ hh'];rfl
 have hbr:BR ν F w' (some (r,k)) (.box [.ptr 0 0 0 0,.d (.sc (.slice none 0 0))]):=by
  refine ⟨r,k,_,T,rfl,hs,rfl,fun u hu=> ?_,fun j g u a b=> ?_,hnF⟩
  ·simp at hu
   rcases hu with rfl|rfl<;>rfl
  ·match j with
   |0=>cases a;cases b;have:=VR.ptr (ν:=ν) (F:=F) (w:=w') 0 0 0 0 r k e;simpa using this
   |1=>cases a;cases b;exact .d (.sc _ rfl)
   |j+2=>cases a
 obtain ⟨r1,r2⟩:=hr.put (i:=0) rfl e (w':=w') (fun q hq=>by rw[hw];exact heap_setCell_other w _ q _ hq) (by rw[hw];simp[World.setCell]) (fun o ho=>absurd ho (hnF o)) (by rw[hw];rfl) (by rw[hw];rfl) (by rw[hw];rfl) hbr (fun o ho=>absurd ho (hnF o))
 have eH:look [(0,some (Blk.box [.ptr 0 0 0 0,.d (.sc (.slice none 0 0))]))] (hpF [.tbx T [.pointer none,.slice none 0 0]])=hpR [some (.box [.ptr 0 0 0 0,.d (.sc (.slice none 0 0))])]:=by
  funext i
  match i with
  |0=>rfl
  |i+1=>rfl
 rw[eH]at r1 r2
 exact ⟨ν,F,_,he,.tup [] #[] rfl (fun j g u a=>(by cases a)),r1,fun _ _=>rfl,hν,r2⟩
theorem ZDx [Laid] {P:Program} {f:FuncId} {fn:Func} {c:Code} {ty n fz:Nat} {α:Type} {df:α} {cs:α→List D} {xs:List α} (hf:P.funcs[f]? =some fn) (hb:fn.body=some c) (hname:(fn.name== "runtime.NumGoroutine")=false)
 (h:∀(b:Nat) (w:World),w.cell? ⟨b,0,none⟩=some (.pointer (some ⟨b,0,none⟩))->Calls P f #[.pointer (some ⟨b,0,none⟩)] w fun e w'=>e= .returned (.tuple #[])/\w'=w):
 GM P f [.ptr 0 0 0 0] [.box [.ptr 0 0 0 0,.sl 1 1 0 n],.row ty 1 df cs xs fz] (.tup []) [some (.box [.ptr 0 0 0 0,.sl 1 1 0 n]),some (.row ty 1 df cs xs fz)]:=by
 refine ⟨⟨fn,c,hf,hb,hname⟩,fun ν F w vs hr hν hv=> ?_⟩
 obtain ⟨v,rfl,hv1⟩:=zGu hv
 obtain ⟨r,k,arr,T,e,hh,hsz,hone,hc,hnF⟩:=hr.blk 0 _ rfl
 obtain ⟨r',k',e',hve⟩:∃r' k',ν 0=some (r',k')/\v= .pointer (some ⟨r',0,none⟩):=by
  cases hv1 with
  |ptr b es i f r k h=>exact ⟨r,k,h,by simp⟩
 rw[e]at e';cases e'
 subst hve
 have h0:(0:Nat)<arr.size:=by rw[hsz];exact Nat.zero_lt_succ _
 have hc0:=hc 0 _ arr[0] rfl (Array.getElem?_eq_getElem h0)
 have hp:arr[0]= .pointer (some ⟨r,0,none⟩):=by
  generalize arr[0]=u at hc0
  cases hc0 with
  |ptr b es i f r2 k2 h2=>rw[e]at h2;cases h2;simp
 refine (h r w (by simp[World.cell?,hh,Array.getElem?_eq_getElem h0,hp])).mono fun e1 w' ⟨he,hw⟩=> ?_
 subst hw
 rw[<-zRz]at hr
 refine ⟨ν,F,_,he,.tup [] #[] rfl (fun j g u a=>(by cases a)),hr,fun _ _=>rfl,hν,?_⟩
 rw[zRz];exact Evo.refl _ _ _ _
theorem ZDw [Laid] {P:Program} {f:FuncId} {fn:Func} {c:Code} {ty:Nat} {cs:UInt8→List D} {xs:List UInt8} (hf:P.funcs[f]? =some fn) (hb:fn.body=some c) (hname:(fn.name== "runtime.NumGoroutine")=false) (hcs:∀x,cs x= [.sc (Value.int .u8 x.toNat)]) (hx:xs≠ [])
 (h:∀(b g cap T:Nat) (p:Value) (cur:Array Value) (w:World),w.heap[b]? =some (.cells #[p,.slice (some ⟨g,0,none⟩) xs.length cap] T (0,0))->w.heap[g]? =some (.cells cur ty (0,0))->xs.length<=cap->cap<=maxLen->cur.size=cap->(∀(j:Nat) (x:UInt8),xs[j]? =some x->cur[j]? =some (Value.int .u8 x.toNat))->Calls P f #[.pointer (some ⟨b,0,none⟩)] w fun e w'=>e= .returned (.string ⟨xs.toArray⟩)/\w'=w.drew.freeze ⟨g,0,none⟩ xs.length):
 GM P f [.ptr 0 0 0 0] [.box [.ptr 0 0 0 0,.sl 1 1 0 xs.length],.row ty 1 default cs xs 0] (.d (.sc (.string ⟨xs.toArray⟩))) [none,none]:=by
 refine ⟨⟨fn,c,hf,hb,hname⟩,fun ν F w vs hr hν hv=> ?_⟩
 obtain ⟨v,rfl,hv1⟩:=zGu hv
 have hpos:0<xs.length:=List.length_pos_iff.2 hx
 obtain ⟨r,k,arr,T,e,hh,hsz,hone,hc,hnF⟩:=hr.blk 0 _ rfl
 obtain ⟨r',k',e',hve⟩:∃r' k',ν 0=some (r',k')/\v= .pointer (some ⟨r',0,none⟩):=by
  cases hv1 with
  |ptr b es i f r k h=>exact ⟨r,k,h,by simp⟩
 rw[e]at e';cases e'
 subst hve
 have hrow:=hr.blk 1 (.row ty 1 default cs xs 0) rfl
 rcases hrow with ⟨_,hx0,_⟩|⟨g,kc,cur,eg,hg,hkm,hcsz,hlk,hcl,hcone,hcv,hcF,_⟩
 ·exact absurd hx0 hx
 ·have hsz2:arr.size=2:=hsz
  obtain ⟨u0,u1,hu⟩:∃u0 u1,arr= #[u0,u1]:=by
   obtain ⟨l⟩:=arr
   match l,hsz2 with
   | [a,b],_=>exact ⟨a,b,rfl⟩
  subst hu
  have hc1:=hc 1 _ u1 rfl rfl
  obtain ⟨cap,hu1,hcap⟩:∃cap,u1= .slice (some ⟨g,0,none⟩) xs.length cap/\cap=kc:=by
   cases hc1 with
   |sl b es i n A c q1 q2 q3=>
    obtain ⟨r2,k2,e2,hA,_,hcc⟩:=q1 hpos
    rw[eg]at e2;cases e2
    exact ⟨c,by rw[hA],by omega⟩
  subst hu1
  subst hcap
  have hsz3:cur.size=cap:=by rw[hcsz];omega
  refine (h r g cap T u0 cur w hh hg hlk hkm hsz3 (fun j x hj=> ?_)).mono fun e1 w' ⟨he,hw⟩=> ?_
  ·have hjl:=(List.getElem?_eq_some_iff.1 hj).1
   have hjc:j<cur.size:=by omega
   have:=hcv j x 0 (.sc (.int .u8 x.toNat)) cur[j] hj (by rw[hcs];rfl) (by rw[Nat.mul_one,Nat.add_zero];exact Array.getElem?_eq_getElem hjc)
   rw[Array.getElem?_eq_getElem hjc]
   generalize cur[j]=u at this
   cases this;rfl
  ·have hfr:∀q,q≠g->w'.heap[q]? =w.heap[q]? :=fun q hq=>by
    rw[hw]
    unfold World.freeze
    rw[if_neg (by omega)]
    show (w.heap.modify g _)[q]? =_
    rw[Array.getElem?_modify,if_neg (fun e=>hq e.symm)]
   have hwsz:w'.heap.size=w.heap.size:=by
    rw[hw];unfold World.freeze;rw[if_neg (by omega)];show (w.heap.modify g _).size=_;exact Array.size_modify
   have hFg:∀o,¬F g o:=fun o ho=>by have:=(hcF o).1 ho;omega
   have hk:Keep F w F w':=⟨fun _ _ h=>h,fun b o hb=>by
    have hne:b≠g:=fun e=>hFg o (e▸hb)
    simp only[World.cell?,hfr b hne],fun b o hb=>by
    have hne:b≠g:=fun e=>hFg o (e▸hb)
    exact Zj (hfr b hne)⟩
   have hno:∀i,hpR [none,none] i=none:=fun i=>by
    match i with
    |0=>rfl
    |1=>rfl
    |i+2=>rfl
   refine ⟨ν,F,_,he,.d (.sc _ rfl),⟨fun i j r k k' hi _ _ _=>(by rw[hno i]at hi;cases hi),fun i b hi=>(by rw[hno i]at hi;cases hi),fun b o hb=>by rw[hk.same b o hb];exact hr.old b o hb,hr.glob.keep hk⟩,fun _ _=>rfl,hν,⟨hk,?_,?_,?_,Nat.le_of_eq hwsz.symm,fun q hq hm=>hfr q fun e=>hm ⟨1,cap,rfl,e▸eg⟩,fun q ⟨i,k2,hi,_⟩=>(by rw[hno i]at hi;cases hi),fun _ _ h=> .inl h⟩⟩
   ·rw[hw];unfold World.freeze;rw[if_neg (by omega)];rfl
   ·rw[hw];unfold World.freeze;rw[if_neg (by omega)];rfl
   ·rw[hw];unfold World.freeze;rw[if_neg (by omega)];rfl
end Go.Gh
namespace Go.Gh
open Go Go.RowKit Go.Proofs
set_option linter.unusedVariables false
set_option linter.unusedSimpArgs false
theorem zPt [Laid] {P:Program} {T:Tab} (hT:za P T) {fn:Func} {p:Nat} {tm:List (Nat×G)} {hp:List (Nat×Option Blk)} {k:Nat} {gs gs':List G} {hs':List (Option Blk)} {ps:List Prop} (h:JP T ⟨tm,hp,k⟩ fn.results.toList=some gs) (hl:gs.length=gs'.length)
 (ρ:Nat->Nat) (hρ:ya p ρ ⟨Zc 0 gs,hp,k⟩ ⟨Zc 0 gs',jR 0 hs',hs'.length⟩=some ps) (hps:zC ps):Va P fn p ⟨tm,hp,k⟩ (yR gs') hs':=by
 intro ν F a w nt hr
 obtain ⟨vs,r1,r2,r3⟩:=uG hT hr fn.results.toList gs h
 have hm:(fn.results.mapM (Qy a.tmps)).run P w= .ok vs.toArray w:=by
  rw[Array.mapM_eq_mapM_toList,Sem.run_map,r1];rfl
 have r0:RS ⟨Zc 0 gs,hp,k⟩ ν F {tmps:=vs.toArray,defers:=[]} w vs.length p:=by
  refine ⟨hr.pin,fun t=> ?_,hr.rel,.nil _,hr.free,by simp,hr.fresh⟩
  show VR ν F w (zg (Zc 0 gs) t) _
  rw[Yv,if_pos (Nat.zero_le _),Nat.sub_zero]
  cases ht:gs[t]? with
  |none=>exact .junk _
  |some g'=>
   have hlt:t<vs.length:=by rw[r2];exact (List.getElem?_eq_some_iff.1 ht).1
   have e1:vs.toArray.getD t undef=vs[t]:=by simp[Array.getD,hlt]
   rw[e1]
   exact r3 t g' _ ht (List.getElem?_eq_getElem hlt)
 obtain ⟨ν2,r4,e4,p4⟩:=(zo hρ hps).rs r0
 have hH:St.H ⟨Zc 0 gs',jR 0 hs',hs'.length⟩=hpR hs':=KP hs'
 have hval:∀(j:Nat) g u,gs'[j]? =some g->vs[j]? =some u->VR ν2 F w g u:=fun j g u hg hu=>by
  have:=r4.vals j
  have e2:St.get ⟨Zc 0 gs',jR 0 hs',hs'.length⟩ j=g:=by
   show zg (Zc 0 gs') j=g
   rw[Yv,if_pos (Nat.zero_le _),Nat.sub_zero,hg];rfl
  have hlt:=(List.getElem?_eq_some_iff.1 hu).1
  have e1:vs.toArray.getD j undef=u:=by
   have:=(List.getElem?_eq_some_iff.1 hu).2
   simp[Array.getD,hlt,this]
  rw[e2]at this
  have this':VR ν2 F w g (vs.toArray.getD j undef):=this
  rw[e1]at this'
  exact this'
 refine ⟨ν2,F,if h:vs.toArray.size=1 then vs.toArray[0]else .tuple vs.toArray,?_,?_,hH▸r4.rel,p4,fun i hi=>r4.free i hi,hH▸e4⟩
 ·rw[jo]
  simp only[Sem.run_bind,hm]
  rfl
 ·match gs',hl,hval with
  | [g],hl,hval=>
    have hl1:vs.toArray.size=1:=by have:gs.length=1:=hl;simpa [r2]using this
    rw[dif_pos hl1]
    exact hval 0 g _ rfl (by rw[List.getElem?_eq_getElem (show 0<vs.length by simp at hl1;omega)];simp)
  | [],hl,hval=>
    have hl1:¬vs.toArray.size=1:=by have:gs.length=0:=hl;simp[r2,this]
    rw[dif_neg hl1]
    exact .tup _ _ (by have:gs.length=0:=hl;simp[r2,this]) (fun j g u h=>(by simp at h))
  |g1::g2::gs'',hl,hval=>
   have hl2:gs.length=gs''.length+2:=hl
   have hl1:¬vs.toArray.size=1:=by simp[r2];omega
   rw[dif_neg hl1]
   refine .tup _ _ (by simp[r2];omega) (fun j g u hg hu=>hval j g u hg (by simpa using hu))
section
variable {P:Program} {nt p:Nat} {R:Exit->St->Prop} {c c':Code} {K K':List Kont} {σ:St}
theorem zYu [Laid] {T:Tab} (env:Env P T) {fn:Func} {ps ps':List Prop} {gs:List G} {hs':List (Option Blk)} {tm:List (Nat×G)} {h0:List (Nat×Option Blk)} {k:Nat} (l:List (Nat×Nat)) (gs':List G) {g:G} (hg:yR gs'=g:=by rfl) (h:JP T ⟨tm,h0,k⟩ fn.results.toList=some gs:=by rfl) (hl:gs.length=gs'.length:=by rfl) (hw:ya p (Hj l) ⟨Zc 0 gs,h0,k⟩ ⟨Zc 0 gs',jR 0 hs',hs'.length⟩=some ps:=by rfl) (hf:nfP ps=some ps':=by rfl) (hp:zC ps':=by first|trivial|simp[zC]):GK P nt p (fun e σ=>VC e/\Va P fn p σ g hs') .ret K ⟨tm,h0,k⟩:=by
 subst hg
 exact Jk K ⟨.inr rfl,zPt env.ty h hl (Hj l) hw (ZY hf▸hp)⟩
end
theorem GM.ent [Laid] {P:Program} {f:FuncId} {args:List G} {hs:List Blk} {g g':G} {hs':List (Option Blk)} (h:GM P f args hs g hs') (he:Ent g g'):GM P f args hs g' hs':=
 ⟨h.1,fun ν F w vs hr hn hv=>(h.2 ν F w vs hr hn hv).mono fun e w' ⟨ν',F',v,h1,h2,h3,h4,h5,h6⟩=>⟨ν',F',v,h1,he _ _ _ _ h2,h3,h4,h5,h6⟩⟩
end Go.Gh
namespace Go.Gh
open Go Go.RowKit Go.Shelf Go.Lib Go.Proofs
set_option linter.unusedVariables false
set_option linter.unusedSimpArgs false
set_option maxHeartbeats 1000000 in
set_option maxRecDepth 100000 in
theorem zUg {P:Program} {ρ:Ren} (L:Lays.n169 P ρ) (X:Builder.Extra P ρ) (l:List UInt8) (h0:l≠ []) (b g cap T0:Nat) (p:Value) (cur:Array Value) (w:World) (hbk:w.heap[b]? =some (.cells #[p,.slice (some ⟨g,0,none⟩) l.length cap] T0 (0,0))) (hg:w.heap[g]? =some (.cells cur (ρ.t 5) (0,0)))
 (hnc:l.length<=cap) (hcm:cap<=maxLen) (hcs:cur.size=cap) (hcell:∀(j:Nat) (x:UInt8),l[j]? =some x->cur[j]? =some (Value.int .u8 x.toNat)):
 Calls P (ρ.f 169) #[.pointer (some ⟨b,0,none⟩)] w fun e w'=>e= .returned (.string ⟨l.toArray⟩)/\w'=w.drew.freeze ⟨g,0,none⟩ l.length:=by
 have hl0:l.length≠0:=by simpa using h0
 have c1:w.drew.cell? ⟨b,1,none⟩=some (.slice (some ⟨g,0,none⟩) l.length cap):=by
  have:w.drew.heap[b]? =some (.cells #[p,.slice (some ⟨g,0,none⟩) l.length cap] T0 (0,0)):=hbk
  rw[Lib.cell_of_heap this];rfl
 have hSD:(Builtin.unsafeSliceData_ #[(ρ.t 37)] (ρ.t 127) #[.slice (some ⟨g,0,none⟩) l.length cap]).run P w.drew= .ok (.pointer (some ⟨g,0,none⟩)) w.drew:=
  Lib.run_unsafeSliceData_row _ _ _ _ _ _ (by omega)
 have hUS:(Builtin.unsafeString_ #[(ρ.t 127),(ρ.t 3)] (ρ.t 9) #[.pointer (some ⟨g,0,none⟩),.int .i64 l.length]).run P w.drew= .ok (.string ⟨l.toArray⟩) (w.drew.freeze ⟨g,0,none⟩ l.length):=by
  have hg':w.drew.heap[g]? =some (.cells cur (ρ.t 5) (0,0)):=hg
  refine Lib.run_unsafeString_row w.drew (ρ.t 127) (ρ.t 3) (ρ.t 9) (ρ.t 5) L.t127 X.cellsByte g cur.size (by simp[World.shape?,hg']) l h0 (by omega) (by unfold maxLen at hcm;omega) ?_
  intro j x hx
  rw[show ((⟨g,0,none⟩:Addr).add j)=⟨g,j,none⟩by (simp[Addr.add];exact fun e=>e.symm),Lib.cell_of_heap hg']
  exact hcell j x hx
 have mixed:=L.mixed
 have t72:=L.t72;have a72:=L.a72;have z72:=L.z72;have v72:=L.v72;have u72:=run_underlying L.t72
 have t70:=L.t70;have a70:=L.a70;have z70:=L.z70;have v70:=L.v70;have u70:=run_underlying L.t70
 have t37:=L.t37;have a37:=L.a37;have z37:=L.z37;have v37:=L.v37;have u37:=run_underlying L.t37
 have t127:=L.t127;have a127:=L.a127;have z127:=L.z127;have v127:=L.v127;have u127:=run_underlying L.t127
 have t3:=L.t3;have a3:=L.a3;have z3:=L.z3;have v3:=L.v3;have u3:=run_underlying L.t3
 have t9:=L.t9;have a9:=L.a9;have z9:=L.z9;have v9:=L.v9;have u9:=run_underlying L.t9
 go_enter L.f169,Body.n169_ntmps ρ
 go_wp2
 go_region_o
 all_goals (go_wp2;go_ret;exact ⟨rfl,rfl⟩)
end Go.Gh
