/- Walks by the logic of calls, and plain laws (several texts in one). -/
import Derived.Test.YtjnjegclenjlbaaGreatDoorM6
import Derived.Test.YtjnjegclenjlbaaGreatDoorGh3
import Derived.Test.YtjnjegclenjlbaaGreatDoorRows
import Derived.Test.YtjnjegclenjlbaaGreatDoorCards
import Derived.Test.YtjnjegclenjlbaaGreatDoorTie
import Derived.ProofKit
import Derived.OpenShut
import Derived.ShutString
import Derived.ChangeOld
import Derived.Deep.Slices
import Derived.Deep.Fields
import Derived.ChangeSame
import Derived.HandedShaped
import Derived.Lib.LaidTab
import Derived.LaidMore
import Derived.Lay
import Derived.Stop.Joined
import Derived.Stop.LaidErr
import Derived.SevenTiedAt
import Derived.JoinedTies
import Derived.JoinedOf
import Derived.KernelRfl
namespace Go.Gh
open Go Go.Proofs
set_option maxRecDepth 1000000
set_option maxHeartbeats 2000000
set_option linter.unusedSimpArgs false
set_option linter.unusedVariables false
set_option linter.unnecessarySimpa false
open Go.Proofs.YtjnjegclenjlbaaGreatDoor
open Go.ChangeShapes Go.WideShapes Go.ChangeAt Go.RowKit Go.Deep
theorem own:ownKnob Tryz.prog.godebug=none:=by kernel_rfl
theorem laidOut:laidOutB Tryz.prog=true:=by kernel_rfl
theorem scV {ν:Nu} {F:Fz} {w:World} (v:Value) (h:v.oneCell'=true):VR ν F w (.d (.sc v)) v:= .d (.sc v h)
section
variable {H:Type} {enc:TypeId×Value→H} {P:Program} {w:World} {base:Nat} {spare:Nat→Bool} {held:Bool}
theorem list_of {α:Type} {p:Nat→α→Prop} :∀n:Nat,(∀i,i<n→∃r,p i r)→∃rs:List α,rs.length=n∧∀i r,rs[i]? =some r→p i r:=by
 intro n
 induction n with
 |zero=>exact fun _=>⟨[],rfl,fun i r h=>by simp at h⟩
 |succ n ih=>
  intro h
  obtain ⟨rs,hl,hp⟩:=ih fun i hi=>h i (by omega)
  obtain ⟨r,hr⟩:=h n (by omega)
  refine ⟨rs++ [r],by simp[hl],fun i q hq=> ?_⟩
  rcases Nat.lt_trichotomy i n with hi|hi|hi
  ·rw[List.getElem?_append_left (by omega)]at hq
   exact hp i q hq
  ·subst hi
   rw[List.getElem?_append_right (by omega),hl]at hq
   simp at hq
   subst hq;exact hr
  ·rw[List.getElem?_eq_none (by simp;omega)]at hq
   cases hq
theorem open_dr {α:Type} {df:α} {cs:α→List D} {Q:α→Prop} {t e k fuel:Nat} {v:Value} {x:DataW H×List MemPlace} (ht:P.underlying t=some (.slice e)) (hC:P.cellsOf e=k) (hk:0<k)
 (one:∀(l:List Value) (n:Nat) (y:DataW H×List MemPlace),l.length=k→DataW.trod enc P w base spare held n e l=some y→∃z:α,(cs z).length=k∧Q z∧∀(j:Nat) g u,(cs z)[j]? =some g→l[j]? =some u→DR (allF w) w g u)
 (h:DataW.trod enc P w base spare held fuel t [v]=some x):∃xs:List α,DR (allF w) w (.row df cs xs) v∧∀x,x∈xs→Q x:=by
 rcases open_slice ht h with ⟨h0,_⟩|⟨a,len,cap,m,n,Dd,Pl,hcs,_,hl,hm,hmm,_,hi⟩
 ·simp at h0
  subst h0
  exact ⟨[],.row df cs [] none 0 0 0 0 (fun _ _=>undef) (fun h=>absurd rfl h) (Nat.zero_le _) (fun e he=>(by cases he)) (fun i e j x a=>(by simp at a)) (fun i e j x a=>(by simp at a)) (fun i e j x a=>(by simp at a)),fun x h=>by cases h⟩
 ·simp at hcs
  subst hcs
  rcases Nat.eq_zero_or_pos len with hz|hz
  ·subst hz
   exact ⟨[],.row df cs [] (some a) cap 0 0 0 (fun _ _=>undef) (fun h=>absurd rfl h) (Nat.zero_le _) (fun e he=>(by cases he)) (fun i e j x a=>(by simp at a)) (fun i e j x a=>(by simp at a)) (fun i e j x a=>(by simp at a)),fun x h=>by cases h⟩
  ·obtain ⟨b,off,spot⟩:=a
   have hel:∀i,i<len→∃(l:List Value) (y:DataW H×List MemPlace),l.length=k∧(∀j,j<k→w.cell? ((({block:=b,off:=off,spot:=spot} :Addr).add (i*k)).add j)=l[j]?)∧DataW.trod enc P w base spare held n e l=some y:=fun i hil=>by
    have him:i<m:=by rw[hmm];split<;>omega
    obtain ⟨cs',hc,ht'⟩:=hi i him
    rw[hC]at hc
    obtain ⟨_,hcl,hat⟩:=World.cells?_some hc
    exact ⟨cs',_,hcl,fun j hj=>hat j hj,ht'⟩
   have hspot:spot=none:=by
    obtain ⟨l,y,h1,h2,_⟩:=hel 0 hz
    have h3:=h2 0 hk
    rw[List.getElem?_eq_getElem (by omega)]at h3
    simpa [Addr.add]using World.cell?_spot h3
   subst hspot
   have hadd:∀i j,w.cell? ((({block:=b,off:=off,spot:=none} :Addr).add (i*k)).add j)=w.cell? ⟨b,off+i*k+j,none⟩:=fun i j=>by
    rw[addr_add,addr_add]
   obtain ⟨xs,hxl,hxs⟩:=list_of (p:=fun i (z:α)=>(cs z).length=k∧Q z∧∀(j:Nat) g,(cs z)[j]? =some g→∃u,w.cell? ⟨b,off+i*k+j,none⟩=some u∧DR (allF w) w g u) len fun i hi=>by
    obtain ⟨l,y,h1,h2,h3⟩:=hel i hi
    obtain ⟨z,z1,zq,z2⟩:=one l n y h1 h3
    refine ⟨z,z1,zq,fun j g hg=> ?_⟩
    have hj:j<k:=by rw[←z1];exact (List.getElem?_eq_some_iff.1 hg).1
    have h4:=h2 j hj
    rw[hadd,List.getElem?_eq_getElem (by omega)]at h4
    exact ⟨_,h4,z2 j g _ hg (List.getElem?_eq_getElem (by omega))⟩
   refine ⟨xs,?_,fun x hx=> ?_⟩
   case refine_2=>obtain ⟨i,hi⟩:=List.getElem?_of_mem hx;exact (hxs i x hi).2.1
   rw[←hxl]
   refine .row df cs xs (some ⟨b,off,none⟩) cap b off k (fun i j=>(w.cell? ⟨b,off+i*k+j,none⟩).getD undef) (fun _=>rfl) (by omega) (fun e he=> ?_) (fun i e j x a1 a2=> ?_) (fun i e j x a1 a2=> ?_) (fun i e j x a1 a2=> ?_)
   ·obtain ⟨i,hi⟩:=List.getElem?_of_mem he;exact (hxs i e hi).1
   ·obtain ⟨u,h1,h2⟩:=(hxs i e a1).2.2 j x a2;rw[h1];rfl
   ·obtain ⟨u,h1,h2⟩:=(hxs i e a1).2.2 j x a2
    show (w.cell? _).isSome=true
    rw[h1];rfl
   ·obtain ⟨u,h1,h2⟩:=(hxs i e a1).2.2 j x a2;rw[h1];exact h2
theorem open_flds {t:TypeId} {fs:Array Field} {fuel:Nat} {l:List Value} {x:DataW H×List MemPlace} (hs:P.underlying t=some (.struct fs)) (hone:oneCellFields P fs=true) (hC:P.cellsOf t=fs.size)
 (h:DataW.trod enc P w base spare held fuel t l=some x):l.length=fs.size∧∀(j:Nat) (g:Field),fs[j]? =some g→∃(u:Value) (y:DataW H×List MemPlace) (n:Nat),l[j]? =some u∧DataW.trod enc P w base spare held n g.type [u]=some y:=by
 obtain ⟨ys,n',_,_,hll,hyl,hg⟩:=DataW.trod_struct hs h
 rw[hC]at hll
 refine ⟨hll,fun j g hj=> ?_⟩
 obtain ⟨ho,hk⟩:=hone_of hone j g hj
 have hjl:j<fs.size:=(Array.getElem?_eq_some_iff.1 hj).1
 have h1:=hg j g hj
 rw[ho,hk]at h1
 have hone':(l.drop j).take 1= [l[j]'(by omega)]:=by
  rw[List.drop_eq_getElem_cons (by omega)]
  rfl
 rw[hone']at h1
 have hys:ys[j]? =some (ys[j]'(by omega)):=List.getElem?_eq_getElem (by omega)
 exact ⟨_,_,n',List.getElem?_eq_getElem (by omega),h1.trans hys⟩
end
section
variable {H:Type} {enc:TypeId×Value→H} {w:World} {base:Nat} {spare:Nat→Bool} {held:Bool}
theorem in64_wf {n:Int} (h:(Lit.int .i64 n).wf=true):In64 n:=by
 simp[Lit.wf,IntKind.min,IntKind.max,IntKind.signed,IntKind.bits]at h
 exact ⟨by omega,by omega⟩
theorem open_events {n:Nat} {v:Value} {x:DataW H×List MemPlace} (h:DataW.trod enc Tryz.prog w base spare held n 22 [v]=some x):∃xs:List Fe,DR (allF w) w (.row default feC xs) v∧∀x,x∈xs→In64 x.sum:=
 open_dr (cs:=feC) (Q:=fun x:Fe=>In64 x.sum) (k:=9) Tryz.underlying22 (by kernel_rfl) (by decide) (fun l n1 y hl ht=>by
  obtain ⟨_,hf⟩:=open_flds Tryz.underlying25 (by kernel_rfl) (by kernel_rfl) ht
  obtain ⟨v0,y0,n0,e0,t0⟩:=hf 0 _ rfl
  obtain ⟨v1,y1,n1,e1,t1⟩:=hf 1 _ rfl
  obtain ⟨v2,y2,n2,e2,t2⟩:=hf 2 _ rfl
  obtain ⟨v3,y3,n3,e3,t3⟩:=hf 3 _ rfl
  obtain ⟨v4,y4,n4,e4,t4⟩:=hf 4 _ rfl
  obtain ⟨v5,y5,n5,e5,t5⟩:=hf 5 _ rfl
  obtain ⟨v6,y6,n6,e6,t6⟩:=hf 6 _ rfl
  obtain ⟨v7,y7,n7,e7,t7⟩:=hf 7 _ rfl
  obtain ⟨v8,y8,n8,e8,t8⟩:=hf 8 _ rfl
  obtain ⟨a0,g0,_,w0⟩:=DataW.trod_int Tryz.underlying3 t0
  simp at g0;subst g0
  obtain ⟨a1,g1,_,w1⟩:=DataW.trod_int Tryz.underlying3 t1
  simp at g1;subst g1
  obtain ⟨a2,g2,_,w2⟩:=DataW.trod_int Tryz.underlying3 t2
  simp at g2;subst g2
  obtain ⟨a3,g3,_,w3⟩:=DataW.trod_int Tryz.underlying3 t3
  simp at g3;subst g3
  obtain ⟨a4,g4,_,w4⟩:=DataW.trod_int Tryz.underlying3 t4
  simp at g4;subst g4
  obtain ⟨a5,g5,_,w5⟩:=DataW.trod_int Tryz.underlying3 t5
  simp at g5;subst g5
  obtain ⟨a6,g6,_,w6⟩:=DataW.trod_int Tryz.underlying3 t6
  simp at g6;subst g6
  obtain ⟨a7,g7,_,w7⟩:=DataW.trod_int Tryz.underlying3 t7
  simp at g7;subst g7
  obtain ⟨a8,g8,_,w8⟩:=DataW.trod_int Tryz.underlying3 t8
  simp at g8;subst g8
  refine ⟨⟨a0,a1,a2,a3,a4,a5,a6,a7,a8⟩,rfl,in64_wf w8,fun j g u hg hu=> ?_⟩
  match j,hg,hu with
  |0,hg,hu=>rw[e0]at hu;cases hu;cases hg;exact .sc _ rfl
  |1,hg,hu=>rw[e1]at hu;cases hu;cases hg;exact .sc _ rfl
  |2,hg,hu=>rw[e2]at hu;cases hu;cases hg;exact .sc _ rfl
  |3,hg,hu=>rw[e3]at hu;cases hu;cases hg;exact .sc _ rfl
  |4,hg,hu=>rw[e4]at hu;cases hu;cases hg;exact .sc _ rfl
  |5,hg,hu=>rw[e5]at hu;cases hu;cases hg;exact .sc _ rfl
  |6,hg,hu=>rw[e6]at hu;cases hu;cases hg;exact .sc _ rfl
  |7,hg,hu=>rw[e7]at hu;cases hu;cases hg;exact .sc _ rfl
  |8,hg,hu=>rw[e8]at hu;cases hu;cases hg;exact .sc _ rfl
  |j+9,hg,hu=>simp[feC]at hg) h
theorem top_events {r:Reach} {b0:Nat} {v:Value} {d:DataW H} {ps:List MemPlace} (hv:Value.okWide Tryz.prog w r b0 22 v) (h:DataW.Trod enc Tryz.prog w base spare held 22 v d ps):∃xs:List Fe,DR (allF w) w (.row default feC xs) v∧∀x,x∈xs→In64 x.sum:=by
 obtain ⟨fuel,hf⟩:=h
 obtain ⟨a,len,cap,rfl⟩:=Go.WideShapes.okWide_slice Tryz.underlying22 hv
 exact open_events (x:=(d,ps)) hf
end
end Go.Gh
namespace Go.Proofs.YtjnjegclenjlbaaGreatDoor
open Go.ChangeShapes Go.WideShapes Go.ChangeAt Go.RowKit Go.Deep Go.Gh
def laidL:List (String×DataW Unit):=[("unicode.White_Space",Rows.laid_unicode_White_Space),("strings.asciiSpace",Rows.laid_strings_asciiSpace),("allonge/lex.signs",Rows.laid_allonge_lex_signs)]
def spaceT:List Int:=[0,0,0,0,0,0,0,0,0,1,1,1,1,1,0,0,0,0,0,0,0,0,0,0,0,0,0,0,0,0,0,0,1,0,0,0,0,0,0,0,0,0,0,0,0,0,0,0,0,0,0,0,0,0,0,0,0,0,0,0,0,0,0,0,0,0,0,0,0,0,0,0,0,0,0,0,0,0,0,0,0,0,0,0,0,0,0,0,0,0,0,0,0,0,0,0,0,0,0,0,0,0,0,0,0,0,0,0,0,0,0,0,0,0,0,0,0,0,0,0,0,0,0,0,0,0,0,0,0,0,0,0,0,0,0,0,0,0,0,0,0,0,0,0,0,0,0,0,0,0,0,0,0,0,0,0,0,0,0,0,0,0,0,0,0,0,0,0,0,0,0,0,0,0,0,0,0,0,0,0,0,0,0,0,0,0,0,0,0,0,0,0,0,0,0,0,0,0,0,0,0,0,0,0,0,0,0,0,0,0,0,0,0,0,0,0,0,0,0,0,0,0,0,0,0,0,0,0,0,0,0,0,0,0,0,0,0,0,0,0,0,0,0,0,0,0,0,0,0,0,0,0,0,0,0,0]
def signsT:List Int:=[40,41,44,59,58,61,60,43,45,42,46,123,125]
theorem gSpace:Tryz.prog.globalNamed "strings.asciiSpace" =some 3:=by kernel_rfl
theorem gSigns:Tryz.prog.globalNamed "allonge/lex.signs" =some 0:=by kernel_rfl
set_option maxRecDepth 100000 in
theorem glob_of_laid {W:World} (h:laidMetH Tryz.prog laidL W):Glob (allF W) W:=by
 rw[MakeChecks.laidMetH_plain _ _ _ (by kernel_rfl)]at h
 have h0:laidMet Tryz.prog (("strings.asciiSpace",Lib.tabData .u8 spaceT):: [("allonge/lex.signs",Lib.tabData .u8 signsT)]) W:=laidMet.tail h
 have h1:laidMet Tryz.prog (("allonge/lex.signs",Lib.tabData .u8 signsT):: []) W:=laidMet.tail h0
 have ht:=Lib.tabIs_of_head gSpace (t:=276) (e:=5) (n:=256) (by kernel_rfl) Tryz.underlying276 Tryz.underlying5 (by kernel_rfl) (by kernel_rfl) h0
 have hu:=Lib.tabIs_of_head gSigns (t:=207) (e:=5) (n:=13) (by kernel_rfl) Tryz.underlying207 Tryz.underlying5 (by kernel_rfl) (by kernel_rfl) h1
 intro q hq
 have hq:q∈ [(0,tabD .u8 signsT),(3,tabD .u8 spaceT)]:=hq
 simp only[List.mem_cons,List.not_mem_nil,or_false]at hq
 rcases hq with rfl|rfl
 ·exact glob_of_tabIs hu gSigns (by decide)
 ·exact glob_of_tabIs ht gSpace (by decide)
set_option maxRecDepth 100000 in
theorem laid_met (os:Os) (args:Array Value):laidMetH Tryz.prog laidL ((World.laidAll Tryz.prog os laidL).forCall (fun _ _=>0) ⟨#[],args,[]⟩).memory:=by
 rw[MakeChecks.laidMetH_plain _ _ _ (by kernel_rfl)];exact laidMet_laidAll _ (by kernel_rfl) (by kernel_rfl)
end Go.Proofs.YtjnjegclenjlbaaGreatDoor
namespace Go.Gh
end Go.Gh
namespace Go.Proofs.YtjnjegclenjlbaaGreatDoor.reopened
open Go
set_option maxRecDepth 100000
theorem andT {a b:Bool} (h:a=true) (k:b=true):(a&&b)=true:=by rw[h,k];rfl
theorem jf0:(Rows.topReopenedRow.wf (OpenSpec.ofChange Rows.topReopenedSpec))=true:=by kernel_rfl
theorem jf1:(laidOutB Tryz.pinned.checked.prog)=true:=by kernel_rfl
theorem jf2:(mapsRowed Tryz.pinned.checked.prog)=true:=by kernel_rfl
theorem jf3:(Tryz.f3.params.all (fun t=>Tryz.pinned.checked.prog.readableRec t))=true:=by kernel_rfl
theorem jf4:(namedTie Tryz.pinned.checked.prog Rows.topReopenedRow.named Rows.topReopenedSpec.vars)=true:=by kernel_rfl
theorem jf5:(Rows.topReopenedRow.stops== [])=true:=by kernel_rfl
theorem jf6:(Tryz.pinned.checked.prog.stops== [])=true:=by kernel_rfl
theorem jf7:(Rows.topReopenedRow.knobs== [])=true:=by kernel_rfl
theorem jf8:(Tryz.pinned.checked.prog.stopKnobs== [])=true:=by kernel_rfl
theorem jf9:(Rows.topReopenedRow.inPlace==Tryz.pinned.checked.prog.inPlace 3)=true:=by kernel_rfl
theorem jf10:(Rows.topReopenedRow.unfollowed==Tryz.pinned.checked.prog.unfollowed 3)=true:=by kernel_rfl
theorem jf11:(Rows.topReopenedRow.recurses==Tryz.pinned.checked.prog.recurses 3)=true:=by kernel_rfl
theorem jf12:(Rows.topReopenedRow.named==Tryz.pinned.checked.prog.varsNamed 3)=true:=by kernel_rfl
theorem jf13:(Rows.topReopenedRow.maps==(Tryz.f3.params.toList++Rows.topReopenedSpec.plain.varTypes Tryz.pinned.checked.prog).any (fun t=>Tryz.pinned.checked.prog.mapsRec t))=true:=by kernel_rfl
theorem jf14:(Rows.topReopenedRow.ifaces==(Tryz.f3.params.toList++Rows.topReopenedSpec.plain.varTypes Tryz.pinned.checked.prog).any (fun t=>Tryz.pinned.checked.prog.ifacesRec t))=true:=by kernel_rfl
theorem jf15:(Rows.topReopenedRow.mapsOut==Tryz.pinned.checked.prog.mapsAmong Tryz.f3.resultTypes.toList)=true:=by kernel_rfl
theorem jf16:(Rows.topReopenedRow.loops==(Tryz.f3.params.toList++Rows.topReopenedSpec.plain.varTypes Tryz.pinned.checked.prog).any (fun t=>Tryz.pinned.checked.prog.loopsFrom t))=true:=by kernel_rfl
theorem jf17:(Rows.topReopenedRow.wideKeys==(Tryz.f3.params.toList++Rows.topReopenedSpec.plain.varTypes Tryz.pinned.checked.prog++Tryz.f3.resultTypes.toList).any (fun t=>Tryz.pinned.checked.prog.wideKeysFrom t))=true:=by kernel_rfl
theorem jf18:(Rows.topReopenedSpec.vars.all (fun t=>Tryz.pinned.checked.prog.varReadable t))=true:=by kernel_rfl
theorem jf19:(Tryz.f3.resultTypes.all (fun t=>Tryz.pinned.checked.prog.readableRec t&&decide (t<Tryz.pinned.checked.prog.types.size)))=true:=by kernel_rfl
theorem jf20:(Rows.topReopenedRow.ifacesOut==Tryz.f3.resultTypes.toList.any (fun t=>Tryz.pinned.checked.prog.ifacesRec t))=true:=by kernel_rfl
theorem jf21:(Rows.topReopenedRow.loopsOut==Tryz.f3.resultTypes.toList.any (fun t=>Tryz.pinned.checked.prog.loopsFrom t))=true:=by kernel_rfl
theorem jf22:(Rows.topReopenedRow.plainKeys==Tryz.pinned.checked.prog.plainKeys)=true:=by kernel_rfl
theorem jf23:(Rows.topReopenedRow.shortTexts.isNone)=true:=by kernel_rfl
theorem jf24:(Tryz.pinned.checked.prog.stopsHeard)=true:=by kernel_rfl
theorem jf25:(Tryz.pinned.checked.prog.mayEnter)=true:=by kernel_rfl
theorem jf26:(Rows.topReopenedRow.lifted==Tryz.pinned.checked.prog.liftsFinal)=true:=by kernel_rfl
theorem jf27:(Tryz.pinned.checked.prog.make==some Rows.topReopenedRow.make)=true:=by kernel_rfl
theorem jf29:(Rows.topReopenedRow.pinned==Rows.topReopenedRow.pinnedBy)=true:=by kernel_rfl
theorem jf30:(Rows.topReopenedRow.veiled==(Tryz.f3.params.toList++Rows.topReopenedSpec.plain.varTypes Tryz.pinned.checked.prog++Tryz.f3.resultTypes.toList).any (fun t=>Tryz.pinned.checked.prog.veiledRec t))=true:=by kernel_rfl
theorem jf31:(Rows.topReopenedRow.veiledFits Tryz.pinned.checked.prog Tryz.f3.params.toList (Tryz.f3.params.toList++Rows.topReopenedSpec.plain.varTypes Tryz.pinned.checked.prog++Tryz.f3.resultTypes.toList))=true:=by kernel_rfl
theorem joined:joinedFacts Tryz.pinned.checked.prog 3 Tryz.f3 Rows.topReopenedSpec Rows.topReopenedRow=true:=
 (andT (andT (andT (andT (andT (andT (andT (andT (andT (andT (andT (andT (andT (andT (andT (andT (andT (andT (andT (andT (andT (andT (andT (andT (andT (andT (andT (andT (andT (andT (andT jf0 jf1) jf2) jf3) jf4) jf5) jf6) jf7) jf8) jf9) jf10) jf11) jf12) jf13) jf14) jf15) jf16) jf17) jf18) jf19) jf20) jf21) jf22) jf23) jf24) jf25) jf26) jf27) (by kernel_rfl)) jf29) jf30) jf31)
end Go.Proofs.YtjnjegclenjlbaaGreatDoor.reopened
