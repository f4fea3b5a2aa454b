/- Walks by the logic of calls, and plain laws (several texts in one). -/
import Derived.Test.YtlnnombljiecmaaGreatDoorM1
import Derived.Test.YtlnnombljiecmaaGreatDoorGh4
import Derived.Shelf.Spec.SlicesGrow
namespace Go.Gh
open Go Go.Proofs
set_option maxRecDepth 1000000
set_option maxHeartbeats 2000000
set_option linter.unusedSimpArgs false
set_option linter.unusedVariables false
set_option linter.unnecessarySimpa false
set_option linter.unusedSectionVars false
variable [Dep]
open Go.RowKit
def WR (i:Int) (n:Int):Bool:=(bif decide (0<=i)then decide (i<n)else false)
theorem Jz (i:Int) (n:Int):GC Tryz.prog 29 [iG i,iG n] (bG (WR i n)):=by
 refine zA Tryz.func29 ?_
 refine gE [0,1,4] ?_
 refine gE [4] ?_
 refine gT ?_
 rw[WR];rfl
def JS (is_:Bool):Cel:=if is_=true then ⟨true,1⟩else ⟨true,0⟩
theorem HJ (is_:Bool):GC Tryz.prog 240 [bG is_] (ceG (JS is_)):=by
 refine zA Tryz.func240 ?_
 refine gE [0,2] ?_
 refine gE [2,3] ?_
 refine zF ?_ ?_<;>intro c1<;>try simp only[bb,toN]at c1
 ·refine gE [2] ?_
  refine gT ?_
  rw[JS,iP (by (try simp only[bb,toN]);exact c1)];rfl
 refine gE [2] ?_
 refine gT ?_
 rw[JS,iN (by (try simp only[bb,toN]);exact c1)];rfl
def Qz (f:Fil) (kind:Int) (at_:Int) (k1:Nat):Cel:=if k1<f.facts.length then if (bif decide (((f.facts.getD k1 dF).kind)=kind)then decide (((f.facts.getD k1 dF).at_)=at_)else false)=true then (JS (!decide (((f.facts.getD k1 dF).n)=0)))else Qz f kind at_ (k1+1)else ⟨false,0⟩
termination_by f.facts.length-k1
def Zf (f:Fil) (kind:Int) (at_:Int):Cel:=Qz f kind at_ 0
theorem Wx (f:Fil) (kind:Int) (at_:Int) (hl:f.facts.length<=9223372036854775807):GC Tryz.prog 241 [fiG f,iG kind,iG at_] (ceG (Zf f kind at_)):=by
 refine zA Tryz.func241 ?_
 refine gE [1,2,3,6] ?_
 refine gE [1,2,6,10,11,12] ?_
 refine zI (α:=Nat) (fun x=>x<=f.facts.length/\Qz f kind at_ 0=Qz f kind at_ x) (fun x=>[(12,iG x)]) (fun x=>[]) (fun x=>f.facts.length-x) 0 ⟨by (try simp only[]);omega,rfl⟩ ?_ (hp:=t40)
 rintro k1 ⟨hi1,he⟩
 refine gE [1,2,6,10,11,12,13] ?_
 refine zB ?_ ?_<;>intro c1<;>try simp only[toN]at c1
 ·refine gE [1,2,6,8,10,11,12] ?_
  refine gE [1,2,6,8,10,11,12,25] ?_
  refine zF ?_ ?_<;>intro c2<;>try simp only[bb,toN]at c2
  ·refine gR [.call (HJ (!decide (((f.facts.getD k1 dF).n)=0)))] [1,2,6,10,11,12] ?_
   refine gT ?_
   rw[Zf,he,Qz,iP t11,iP (by (try simp only[bb,toN]);exact c2)];rfl
  refine gE [1,2,6,10,11,12] ?_
  refine zD (k1+1) ?_ (hp:=t40)
  refine ⟨by (try simp only[]);omega,he.trans ?_⟩
  rw[Qz,iP t11,iN (by (try simp only[bb,toN]);exact c2)]
  try rfl
 refine gE [6] ?_
 refine gT ?_
 rw[Zf,he,Qz,iQ t11];rfl
open Go.IntKind (i64)
theorem inV_t {i n:Int} (h:inV i n=true):0<=i/\i<n:=by simpa [inV]using h
def zl (r:Rlm) (city:Int):Int:=if (!(inV city (r.bB.length:Int)))=true then (-1)else (r.bB.getD city.toNat dF).ord
theorem YM (r:Rlm) (city:Int) (hr:FitR r):GC Tryz.prog 208 [rlG r,iG city] (iG (zl r city)):=by
 have h1:=hr.bB;have h2:=hr.bE
 refine zA Tryz.func208 ?_
 refine gE [1,2,4] ?_
 refine gR [.call (QO city (r.bB.length:Int))] [1,2,4,10] ?_
 refine zF ?_ ?_<;>intro c1<;>try simp only[bb,toN]at c1
 ·refine gE [1,2,4] ?_
  refine gT ?_
  rw[zl,iP (by (try simp only[bb,toN]);exact c1)];rfl
 have hc:=inV_t c1
 refine gE [4] ?_
 refine gT ?_
 rw[zl,iN (by (try simp only[bb,toN]);exact c1)];rfl
def wZ (r:Rlm) (fr:Int) (dst:Int) (k1:Nat):Int×Int:=if k1<r.bE.length then if (bif decide (((r.bE.getD k1 dF).fr)=fr)then decide (((r.bE.getD k1 dF).dst)=dst)else false)=true then ((r.bE.getD k1 dF).days,0)else wZ r fr dst (k1+1)else (0,4)
termination_by r.bE.length-k1
def HH (r:Rlm) (fr:Int) (dst:Int):Int×Int:=wZ r fr dst 0
theorem Uk (r:Rlm) (fr:Int) (dst:Int) (hr:FitR r):GC Tryz.prog 70 [rlG r,iG fr,iG dst] (.tup [iG ((HH r fr dst).1),iG ((HH r fr dst).2)]):=by
 have h1:=hr.bB;have h2:=hr.bE
 refine zA Tryz.func70 ?_
 refine gE [1,2,3,6,7] ?_
 refine gE [1,2,6,7,11,12,13] ?_
 refine zI (α:=Nat) (fun x=>x<=r.bE.length/\wZ r fr dst 0=wZ r fr dst x) (fun x=>[(13,iG x)]) (fun x=>[]) (fun x=>r.bE.length-x) 0 ⟨by (try simp only[]);omega,rfl⟩ ?_ (hp:=t40)
 rintro k1 ⟨hi1,he⟩
 refine gE [1,2,6,7,11,12,13,14] ?_
 refine zB ?_ ?_<;>intro c1<;>try simp only[toN]at c1
 ·refine gE [1,2,6,7,9,11,12,13] ?_
  refine gE [1,2,6,7,9,11,12,13,26] ?_
  refine zF ?_ ?_<;>intro c2<;>try simp only[bb,toN]at c2
  ·refine gE [1,2,6,7,11,12,13] ?_
   refine gT ?_
   rw[HH,he,wZ,iP t11,iP (by (try simp only[bb,toN]);exact c2)];rfl
  refine gE [1,2,6,7,11,12,13] ?_
  refine zD (k1+1) ?_ (hp:=t40)
  refine ⟨by (try simp only[]);omega,he.trans ?_⟩
  rw[wZ,iP t11,iN (by (try simp only[bb,toN]);exact c2)]
  try rfl
 refine gE [6,7] ?_
 refine gT ?_
 rw[HH,he,wZ,iQ t11];rfl
def jA (f:Fil) (day:Int) (a6_1:Int) (a7_1:Bool) (k1:Nat):Int×Bool:=if k1<f.acts.length then if (bif (bif (bif (!decide (((f.acts.getD k1 dF).kind)=1))then (!decide (((f.acts.getD k1 dF).kind)=3))else false)then (!decide (((f.acts.getD k1 dF).kind)=4))else false)then true else decide (day<((f.acts.getD k1 dF).day)))=true then jA f day a6_1 a7_1 (k1+1)else if (bif (!a7_1)then true else decide (((f.acts.getD k1 dF).day)<a6_1))=true then jA f day ((f.acts.getD k1 dF).day) true (k1+1)else jA f day a6_1 a7_1 (k1+1)else (a6_1,a7_1)
termination_by f.acts.length-k1
def zX (f:Fil) (day:Int):Int×Bool:=jA f day 0 false 0
theorem zYv (f:Fil) (day:Int) (hl:f.acts.length<=9223372036854775807):GC Tryz.prog 46 [fiG f,iG day] (.tup [iG ((zX f day).1),bG ((zX f day).2)]):=by
 refine zA Tryz.func46 ?_
 refine gE [1,2,4,5] ?_
 refine gE [1,2,4,5,6,7] ?_
 refine gE [1,4,5,6,7,11,12,13] ?_
 refine zI (α:=Int×Bool×Nat) (fun x=>x.2.2<=f.acts.length/\jA f day 0 false 0=jA f day x.1 x.2.1 x.2.2) (fun x=>[(6,iG x.1),(7,bG x.2.1),(13,iG x.2.2)]) (fun x=>[]) (fun x=>f.acts.length-x.2.2) (0,false,0) ⟨by (try simp only[]);omega,rfl⟩ ?_ (hp:=t40)
 rintro ⟨a6_1,a7_1,k1⟩ ⟨hi1,he⟩
 dsimp only at*
 refine gE [1,4,5,6,7,11,12,13,14] ?_
 refine zB ?_ ?_<;>intro c1<;>try simp only[toN]at c1
 ·refine gE [1,4,5,6,7,9,11,12,13] ?_
  refine gE [1,4,5,6,7,9,11,12,13,35] ?_
  refine zF ?_ ?_<;>intro c2<;>try simp only[bb,toN]at c2
  ·refine gE [1,4,5,6,7,11,12,13] ?_
   refine zD ((a6_1,a7_1,k1+1)) ?_ (hp:=t40) (hm:=by dsimp only;omega)
   refine ⟨by (try simp only[]);omega,he.trans ?_⟩
   rw[jA,iP t11,iP (by (try simp only[bb,toN]);exact c2)]
   try rfl
  refine gE [1,4,5,6,7,9,11,12,13,43] ?_
  refine zF ?_ ?_<;>intro c3<;>try simp only[bb,toN]at c3
  ·refine gE [1,4,5,6,7,11,12,13] ?_
   refine gE [1,4,5,6,7,11,12,13] ?_
   refine zD (((f.acts.getD k1 dF).day,true,k1+1)) ?_ (hp:=t40) (hm:=by dsimp only;omega)
   refine ⟨by (try simp only[]);omega,he.trans ?_⟩
   rw[jA,iP t11,iN (by (try simp only[bb,toN]);exact c2),iP (by (try simp only[bb,toN]);exact c3)]
   try rfl
  refine gE [1,4,5,6,7,11,12,13] ?_
  refine zD ((a6_1,a7_1,k1+1)) ?_ (hp:=t40) (hm:=by dsimp only;omega)
  refine ⟨by (try simp only[]);omega,he.trans ?_⟩
  rw[jA,iP t11,iN (by (try simp only[bb,toN]);exact c2),iN (by (try simp only[bb,toN]);exact c3)]
  try rfl
 refine gE [4,5] ?_
 refine gT ?_
 rw[zX,he,jA,iQ t11];rfl
def vS (before:Int) (flags:Int):Int:=if (bif (!decide ((yz .i64 flags 2)=0))then true else (!decide (before=0)))=true then 1 else if (yz .i64 flags 4)=0 then 0 else 2
theorem zJm (before:Int) (flags:Int):GC Tryz.prog 48 [iG before,iG flags] (iG (vS before flags)):=by
 refine zA Tryz.func48 ?_
 refine gE [0,1,4] ?_
 refine gE [1,4,5] ?_
 refine zF ?_ ?_<;>intro c1<;>try simp only[bb,toN]at c1
 ·refine gE [4] ?_
  refine gT ?_
  rw[vS,iP (by (try simp only[bb,toN]);exact c1)];rfl
 refine gE [4,13] ?_
 refine zQ ?_ ?_<;>intro c2<;>try simp only[toN]at c2
 ·refine gE [4] ?_
  refine gT ?_
  rw[vS,iN (by (try simp only[bb,toN]);exact c1),iQ c2];rfl
 refine gE [4] ?_
 refine gT ?_
 rw[vS,iN (by (try simp only[bb,toN]);exact c1),iP c2];rfl
def WG (n:Int):Bool:=(bif decide (0<=n)then decide (n<=100000)else false)
theorem uV (n:Int):GC Tryz.prog 169 [iG n] (bG (WG n)):=by
 refine zA Tryz.func169 ?_
 refine gE [0,2] ?_
 refine gE [2] ?_
 refine gT ?_
 rw[WG];rfl
def wI (r:Rlm) (city:Int):Bool:=(bif decide (0<=city)then decide (city<(r.bB.length:Int))else false)
theorem XN (r:Rlm) (city:Int) (hr:FitR r):GC Tryz.prog 168 [rlG r,iG city] (bG (wI r city)):=by
 have h1:=hr.bB;have h2:=hr.bE
 refine zA Tryz.func168 ?_
 refine gE [1,2,4] ?_
 refine gE [4] ?_
 refine gT ?_
 rw[wI];rfl
def Xw (t:Tnr):Bool:=(bif decide (t.kind=0)then true else decide (t.kind=1))
theorem zJq (t:Tnr):GC Tryz.prog 170 [tnG t] (bG (Xw t)):=by
 refine zA Tryz.func170 ?_
 refine gE [1,2] ?_
 refine gE [2] ?_
 refine gT ?_
 rw[Xw];rfl
def QE (day:Int):Bool:=(bif decide (0<=day)then decide (day<=100000)else false)
theorem jX (day:Int):GC Tryz.prog 125 [iG day] (bG (QE day)):=by
 refine zA Tryz.func125 ?_
 refine gE [0,2] ?_
 refine gE [2] ?_
 refine gT ?_
 rw[QE];rfl
def zc (day:Int):Int×Int×Int:=let v6:Int:=(i64.wrap (day+730425)).tmod 146097;let v2:Int:=i64.wrap ((i64.wrap ((i64.wrap ((i64.wrap (v6-(i64.wrap (v6.tdiv 1460))))+(i64.wrap (v6.tdiv 36524))))-(i64.wrap (v6.tdiv 146096)))).tdiv 365);let v1:Int:=i64.wrap (v6-(i64.wrap ((i64.wrap ((i64.wrap (365*v2))+(i64.wrap (v2.tdiv 4))))-(i64.wrap (v2.tdiv 100)))));let v3:Int:=i64.wrap ((i64.wrap ((i64.wrap (5*v1))+2)).tdiv 153);let v4:Int:=(i64.wrap (v1-(i64.wrap ((i64.wrap ((i64.wrap (153*v3))+2)).tdiv 5))))+1;let v5:Int:=v2+(i64.wrap (400*(i64.wrap ((i64.wrap (day+730425)).tdiv 146097))));let v7:Int:=i64.wrap (v3+3);if 12<v7 then if (i64.wrap (v7-12))<3 then (i64.wrap ((i64.wrap v5)+1),i64.wrap (v7-12),i64.wrap v4)else (i64.wrap v5,i64.wrap (v7-12),i64.wrap v4)else if v7<3 then (i64.wrap ((i64.wrap v5)+1),i64.wrap (v3+3),i64.wrap v4)else (i64.wrap v5,i64.wrap (v3+3),i64.wrap v4)
theorem uv (day:Int):GC Tryz.prog 126 [iG day] (.tup [iG ((zc day).1),iG ((zc day).2.1),iG ((zc day).2.2)]):=by
 refine zA Tryz.func126 ?_
 refine gE [0,2,3,4] ?_
 refine zG env true [] [2,3,4,5] ?_
 refine zG env true [] [2,3,4,6,7] ?_
 refine zG env true [] [2,3,4,6,7,8] ?_
 refine zG env true [] [2,3,4,6,7,8] ?_
 refine zG env true [] [2,3,4,6,7,8,9] ?_
 refine zG env true [] [2,3,4,6,8,9] ?_
 refine zG env true [] [2,3,4,6,8] ?_
 refine gE [2,3,4,6,8,51] ?_
 refine zB ?_ ?_<;>intro c1<;>try simp only[toN]at c1
 ·refine zG env true [] [2,3,4,6,8] ?_
  refine zG env true [] [2,3,4] ?_
  refine gE [2,3,4,59] ?_
  refine zB ?_ ?_<;>intro c2<;>try simp only[toN]at c2
  ·refine zG env true [] [2,3,4] ?_
   refine gE [2,3,4] ?_
   refine gT ?_
   rw[zc,iP c1,iP c2];rfl
  refine gE [2,3,4] ?_
  refine gT ?_
  rw[zc,iP c1,iQ c2];rfl
 refine zG env true [] [2,3,4] ?_
 refine gE [2,3,4,59] ?_
 refine zB ?_ ?_<;>intro c3<;>try simp only[toN]at c3
 ·refine zG env true [] [2,3,4] ?_
  refine gE [2,3,4] ?_
  refine gT ?_
  rw[zc,iQ c1,iP c3];rfl
 refine gE [2,3,4] ?_
 refine gT ?_
 rw[zc,iQ c1,iQ c3];rfl
def Qi (year:Int) (month:Int) (dom:Int):Int:=if month<3 then i64.wrap ((i64.wrap ((i64.wrap ((i64.wrap ((i64.wrap ((i64.wrap ((i64.wrap ((i64.wrap (365*(i64.wrap (year-1))))+(i64.wrap ((i64.wrap (year-1)).tdiv 4))))-(i64.wrap ((i64.wrap (year-1)).tdiv 100))))+(i64.wrap ((i64.wrap (year-1)).tdiv 400))))+(i64.wrap ((i64.wrap ((i64.wrap (153*(i64.wrap ((i64.wrap (month+12))-3))))+2)).tdiv 5))))+dom))-1))-730425)else i64.wrap ((i64.wrap ((i64.wrap ((i64.wrap ((i64.wrap ((i64.wrap ((i64.wrap ((i64.wrap (365*year))+(i64.wrap (year.tdiv 4))))-(i64.wrap (year.tdiv 100))))+(i64.wrap (year.tdiv 400))))+(i64.wrap ((i64.wrap ((i64.wrap (153*(i64.wrap (month-3))))+2)).tdiv 5))))+dom))-1))-730425)
theorem WN (year:Int) (month:Int) (dom:Int):GC Tryz.prog 282 [iG year,iG month,iG dom] (iG (Qi year month dom)):=by
 refine zA Tryz.func282 ?_
 refine gE [0,1,2,6] ?_
 refine gE [0,1,2,6,8] ?_
 refine zB ?_ ?_<;>intro c1<;>try simp only[toN]at c1
 ·refine zG env true [] [0,1,2,6] ?_
  refine zG env true [] [6] ?_
  refine gT ?_
  rw[Qi,iP c1];rfl
 refine zG env true [] [6] ?_
 refine gT ?_
 rw[Qi,iQ c1];rfl
def jt (year:Int) (month:Int):Int:=if month=12 then 31 else i64.wrap ((Qi year (i64.wrap (month+1)) 1)-(Qi year month 1))
theorem uu (year:Int) (month:Int):GC Tryz.prog 265 [iG year,iG month] (iG (jt year month)):=by
 refine zA Tryz.func265 ?_
 refine gE [0,1,4] ?_
 refine gE [0,1,4,6] ?_
 refine zB ?_ ?_<;>intro c1<;>try simp only[toN]at c1
 ·refine gE [0,1,4] ?_
  refine gT ?_
  rw[jt,iP c1];rfl
 refine zG env true [.call (WN year (i64.wrap (month+1)) 1),.call (WN year month 1)] [4] ?_
 refine gT ?_
 rw[jt,iQ c1];rfl
def yW (day:Int):Int×Int×Int×Int:=if (!(QE day))=true then (0,0,0,3)else ((zc day).1,(zc day).2.1,(zc day).2.2,0)
theorem zTq (day:Int):GC Tryz.prog 78 [iG day] (.tup [iG ((yW day).1),iG ((yW day).2.1),iG ((yW day).2.2.1),iG ((yW day).2.2.2)]):=by
 refine zA Tryz.func78 ?_
 refine gE [0,2,3,4,5] ?_
 refine gR [.call (jX day)] [0,2,3,4,5,8] ?_
 refine zF ?_ ?_<;>intro c1<;>try simp only[bb,toN]at c1
 ·refine gE [0,2,3,4,5] ?_
  refine gT ?_
  rw[yW,iP (by (try simp only[bb,toN]);exact c1)];rfl
 refine gR [.call (uv day)] [2,3,4,5] ?_
 refine gE [2,3,4,5] ?_
 refine gT ?_
 rw[yW,iN (by (try simp only[bb,toN]);exact c1)];rfl
def zFq (year:Int) (month:Int) (dom:Int):Int×Int:=if (bif (bif (bif (bif (bif decide (year<2000)then true else decide (2300<year))then true else decide (month<1))then true else decide (12<month))then true else decide (dom<1))then true else decide ((jt year month)<dom))=true then (0,3)else if (!(QE (Qi year month dom)))=true then (0,3)else ((Qi year month dom),0)
theorem zZm (year:Int) (month:Int) (dom:Int):GC Tryz.prog 264 [iG year,iG month,iG dom] (.tup [iG ((zFq year month dom).1),iG ((zFq year month dom).2)]):=by
 refine zA Tryz.func264 ?_
 refine gE [0,1,2,6,7] ?_
 refine gR [.call (uu year month)] [0,1,2,6,7,33] ?_
 refine zF ?_ ?_<;>intro c1<;>try simp only[bb,toN]at c1
 ·refine gE [0,1,2,6,7] ?_
  refine gT ?_
  rw[zFq,iP (by (try simp only[bb,toN]);exact c1)];rfl
 refine gR [.call (WN year month dom)] [6,7,8] ?_
 refine gR [.call (jX (Qi year month dom))] [6,7,8,40] ?_
 refine zF ?_ ?_<;>intro c2<;>try simp only[bb,toN]at c2
 ·refine gE [6,7,8] ?_
  refine gT ?_
  rw[zFq,iN (by (try simp only[bb,toN]);exact c1),iP (by (try simp only[bb,toN]);exact c2)];rfl
 refine gE [6,7] ?_
 refine gT ?_
 rw[zFq,iN (by (try simp only[bb,toN]);exact c1),iN (by (try simp only[bb,toN]);exact c2)];rfl
def Xi (day:Int) (n:Int):Int×Int:=if (bif (bif (!(QE day))then true else decide (n<(-5000)))then true else decide (5000<n))=true then (0,3)else ((zFq (i64.wrap ((i64.wrap ((i64.wrap ((i64.wrap ((i64.wrap (12*((zc day).1)))+((zc day).2.1)))-1))+n)).tdiv 12)) (i64.wrap (((i64.wrap ((i64.wrap ((i64.wrap ((i64.wrap (12*((zc day).1)))+((zc day).2.1)))-1))+n)).tmod 12)+1)) (mnI ((zc day).2.2) (jt (i64.wrap ((i64.wrap ((i64.wrap ((i64.wrap ((i64.wrap (12*((zc day).1)))+((zc day).2.1)))-1))+n)).tdiv 12)) (i64.wrap (((i64.wrap ((i64.wrap ((i64.wrap ((i64.wrap (12*((zc day).1)))+((zc day).2.1)))-1))+n)).tmod 12)+1))))).1,(zFq (i64.wrap ((i64.wrap ((i64.wrap ((i64.wrap ((i64.wrap (12*((zc day).1)))+((zc day).2.1)))-1))+n)).tdiv 12)) (i64.wrap (((i64.wrap ((i64.wrap ((i64.wrap ((i64.wrap (12*((zc day).1)))+((zc day).2.1)))-1))+n)).tmod 12)+1)) (mnI ((zc day).2.2) (jt (i64.wrap ((i64.wrap ((i64.wrap ((i64.wrap ((i64.wrap (12*((zc day).1)))+((zc day).2.1)))-1))+n)).tdiv 12)) (i64.wrap (((i64.wrap ((i64.wrap ((i64.wrap ((i64.wrap (12*((zc day).1)))+((zc day).2.1)))-1))+n)).tmod 12)+1))))).2)
theorem ZAb (day:Int) (n:Int):GC Tryz.prog 236 [iG day,iG n] (.tup [iG ((Xi day n).1),iG ((Xi day n).2)]):=by
 refine zA Tryz.func236 ?_
 refine gE [0,1,4,5] ?_
 refine gR [.call (jX day)] [0,1,4,5,20] ?_
 refine zF ?_ ?_<;>intro c1<;>try simp only[bb,toN]at c1
 ·refine gE [0,1,4,5] ?_
  refine gT ?_
  rw[Xi,iP (show (bif (bif (!(QE day))then true else decide (n<(-5000)))then true else decide (5000<n))=true by (try simp only[bb,toN]);exact c1)];rfl
 refine gR [.call (uv day)] [1,4,5,6,7,8] ?_
 refine zG env true [] [4,5,6,7,8,9] ?_
 refine zG env true [] [4,5,6,7,8] ?_
 refine gR [.call (uu (i64.wrap ((i64.wrap ((i64.wrap ((i64.wrap ((i64.wrap (12*((zc day).1)))+((zc day).2.1)))-1))+n)).tdiv 12)) (i64.wrap (((i64.wrap ((i64.wrap ((i64.wrap ((i64.wrap (12*((zc day).1)))+((zc day).2.1)))-1))+n)).tmod 12)+1))),.call (zZm (i64.wrap ((i64.wrap ((i64.wrap ((i64.wrap ((i64.wrap (12*((zc day).1)))+((zc day).2.1)))-1))+n)).tdiv 12)) (i64.wrap (((i64.wrap ((i64.wrap ((i64.wrap ((i64.wrap (12*((zc day).1)))+((zc day).2.1)))-1))+n)).tmod 12)+1)) (mnI ((zc day).2.2) (jt (i64.wrap ((i64.wrap ((i64.wrap ((i64.wrap ((i64.wrap (12*((zc day).1)))+((zc day).2.1)))-1))+n)).tdiv 12)) (i64.wrap (((i64.wrap ((i64.wrap ((i64.wrap ((i64.wrap (12*((zc day).1)))+((zc day).2.1)))-1))+n)).tmod 12)+1)))))] [4,5] ?_
 refine gT ?_
 rw[Xi,iQ (show ¬((bif (bif (!(QE day))then true else decide (n<(-5000)))then true else decide (5000<n))=true)by rw[Bool.not_eq_true];(try simp only[bb,toN]);exact c1)];rfl
def JC (day:Int) (t:Tnr):Int×Int:=if (bif decide (t.n<0)then true else decide (20000<t.n))=true then (0,3)else if t.unit=1 then ((Xi day t.n).1,(Xi day t.n).2)else (i64.wrap (day+t.n),0)
theorem zCn (day:Int) (t:Tnr):GC Tryz.prog 207 [iG day,tnG t] (.tup [iG ((JC day t).1),iG ((JC day t).2)]):=by
 refine zA Tryz.func207 ?_
 refine gE [0,3,4,5] ?_
 refine gE [0,3,4,5,13] ?_
 refine zF ?_ ?_<;>intro c1<;>try simp only[bb,toN]at c1
 ·refine gE [0,3,4,5] ?_
  refine gT ?_
  rw[JC,iP (by (try simp only[bb,toN]);exact c1)];rfl
 refine gE [0,3,4,5,16] ?_
 refine zB ?_ ?_<;>intro c2<;>try simp only[toN]at c2
 ·refine gR [.call (ZAb day t.n)] [0,3,4,5] ?_
  refine gT ?_
  rw[JC,iN (by (try simp only[bb,toN]);exact c1),iP c2];rfl
 refine zG env true [] [4,5] ?_
 refine gT ?_
 rw[JC,iN (by (try simp only[bb,toN]);exact c1),iQ c2];rfl
def Yr (r:Rlm) (b:Bil) (seen:Int):Int×Int:=if b.ten.kind=0 then (seen,0)else if b.ten.kind=1 then ((JC seen b.ten).1,(JC seen b.ten).2)else if b.ten.kind=2 then ((JC b.day b.ten).1,(JC b.day b.ten).2)else if b.ten.kind=4 then (i64.wrap (b.day+((HH r b.city b.pay).1)),(HH r b.city b.pay).2)else (b.ten.n,0)
theorem zOh (r:Rlm) (b:Bil) (seen:Int) (hr:FitR r):GC Tryz.prog 171 [rlG r,zCf b,iG seen] (.tup [iG ((Yr r b seen).1),iG ((Yr r b seen).2)]):=by
 have h1:=hr.bB;have h2:=hr.bE
 refine zA Tryz.func171 ?_
 refine gE [2,3,4,6,7] ?_
 refine gE [2,3,4,6,7,12] ?_
 refine gE [2,3,4,6,7,12,13] ?_
 refine zB ?_ ?_<;>intro c1<;>try simp only[toN]at c1
 ·refine gE [4,6,7] ?_
  refine gT ?_
  rw[Yr,iP c1];rfl
 refine gE [2,3,4,6,7,12,16] ?_
 refine zB ?_ ?_<;>intro c2<;>try simp only[toN]at c2
 ·refine gR [.call (zCn seen b.ten)] [4,6,7] ?_
  refine gT ?_
  rw[Yr,iQ c1,iP c2];rfl
 refine gE [3,4,6,7,12,24] ?_
 refine zB ?_ ?_<;>intro c3<;>try simp only[toN]at c3
 ·refine gR [.call (zCn b.day b.ten)] [4,6,7] ?_
  refine gT ?_
  rw[Yr,iQ c1,iQ c2,iP c3];rfl
 refine gE [3,4,6,7,33] ?_
 refine zB ?_ ?_<;>intro c4<;>try simp only[toN]at c4
 ·refine gR [.call (Uk r b.city b.pay hr)] [4,6,7,8,9] ?_
  refine zG env true [] [4,6,7] ?_
  refine gT ?_
  rw[Yr,iQ c1,iQ c2,iQ c3,iP c4];rfl
 refine gE [6,7] ?_
 refine gT ?_
 rw[Yr,iQ c1,iQ c2,iQ c3,iQ c4];rfl
def VE (v:Int):Int×Bool:=if (bif decide (v<0)then true else decide (19<v))=true then (0,false)else if v<7 then (0,true)else (1,true)
theorem zGz (v:Int):GC Tryz.prog 272 [iG v] (.tup [iG ((VE v).1),bG ((VE v).2)]):=by
 refine zA Tryz.func272 ?_
 refine gE [0,2,3] ?_
 refine gE [0,2,3,4] ?_
 refine zF ?_ ?_<;>intro c1<;>try simp only[bb,toN]at c1
 ·refine gE [2,3] ?_
  refine gT ?_
  rw[VE,iP (by (try simp only[bb,toN]);exact c1)];rfl
 refine gE [2,3,11] ?_
 refine zB ?_ ?_<;>intro c2<;>try simp only[toN]at c2
 ·refine gE [2,3] ?_
  refine gT ?_
  rw[VE,iN (by (try simp only[bb,toN]);exact c1),iP c2];rfl
 refine gE [2,3] ?_
 refine gT ?_
 rw[VE,iN (by (try simp only[bb,toN]);exact c1),iQ c2];rfl
def zNe (n:Int):Int:=mnI (mxI n (-1099511627776)) 1099511627776
theorem Kr (n:Int):GC Tryz.prog 274 [iG n] (iG (zNe n)):=by
 refine zA Tryz.func274 ?_
 refine gE [0,2] ?_
 refine gE [2] ?_
 refine gT ?_
 rw[zNe];rfl
def qm (is_:Bool):Cel:=if is_=true then ⟨true,1⟩else ⟨true,0⟩
theorem qb (is_:Bool):GC Tryz.prog 273 [bG is_] (ceG (qm is_)):=by
 refine zA Tryz.func273 ?_
 refine gE [0,2] ?_
 refine gE [2,3] ?_
 refine zF ?_ ?_<;>intro c1<;>try simp only[bb,toN]at c1
 ·refine gE [2] ?_
  refine gT ?_
  rw[qm,iP (by (try simp only[bb,toN]);exact c1)];rfl
 refine gE [2] ?_
 refine gT ?_
 rw[qm,iN (by (try simp only[bb,toN]);exact c1)];rfl
def wS (s:Sad):Int:=if s.err=0 then if (!s.cell.known)=true then 2 else if s.cell.n=0 then 0 else 1 else 0
theorem vO (s:Sad):GC Tryz.prog 154 [sdG s] (iG (wS s)):=by
 refine zA Tryz.func154 ?_
 refine gE [1,2] ?_
 refine gE [1,2,3] ?_
 refine zQ ?_ ?_<;>intro c1<;>try simp only[toN]at c1
 ·refine gE [2] ?_
  refine gT ?_
  rw[wS,iQ c1];rfl
 refine gE [1,2,7] ?_
 refine zF ?_ ?_<;>intro c2<;>try simp only[bb,toN]at c2
 ·refine gE [2] ?_
  refine gT ?_
  rw[wS,iP c1,iP (by (try simp only[bb,toN]);exact c2)];rfl
 refine gE [2,12] ?_
 refine zQ ?_ ?_<;>intro c3<;>try simp only[toN]at c3
 ·refine gE [2] ?_
  refine gT ?_
  rw[wS,iP c1,iN (by (try simp only[bb,toN]);exact c2),iQ c3];rfl
 refine gE [2] ?_
 refine gT ?_
 rw[wS,iP c1,iN (by (try simp only[bb,toN]);exact c2),iP c3];rfl
def Hv (s:Sad):Int:=if (bif (!decide (s.err=0))then true else (!s.cell.known))=true then (-1)else s.cell.n
theorem zQb (s:Sad):GC Tryz.prog 134 [sdG s] (iG (Hv s)):=by
 refine zA Tryz.func134 ?_
 refine gE [1,2] ?_
 refine gE [1,2,11] ?_
 refine zF ?_ ?_<;>intro c1<;>try simp only[bb,toN]at c1
 ·refine gE [1,2] ?_
  refine gT ?_
  rw[Hv,iP (by (try simp only[bb,toN]);exact c1)];rfl
 refine gE [2] ?_
 refine gT ?_
 rw[Hv,iN (by (try simp only[bb,toN]);exact c1)];rfl
def Xe (a:Int) (b:Int):Int:=if (bif decide (a=0)then true else decide (b=0))=true then 0 else if (bif decide (a=2)then true else decide (b=2))=true then 2 else 1
theorem zZs (a:Int) (b:Int):GC Tryz.prog 148 [iG a,iG b] (iG (Xe a b)):=by
 refine zA Tryz.func148 ?_
 refine gE [0,1,4] ?_
 refine gE [0,1,4,5] ?_
 refine zF ?_ ?_<;>intro c1<;>try simp only[bb,toN]at c1
 ·refine gE [4] ?_
  refine gT ?_
  rw[Xe,iP (by (try simp only[bb,toN]);exact c1)];rfl
 refine gE [4,12] ?_
 refine zF ?_ ?_<;>intro c2<;>try simp only[bb,toN]at c2
 ·refine gE [4] ?_
  refine gT ?_
  rw[Xe,iN (by (try simp only[bb,toN]);exact c1),iP (by (try simp only[bb,toN]);exact c2)];rfl
 refine gE [4] ?_
 refine gT ?_
 rw[Xe,iN (by (try simp only[bb,toN]);exact c1),iN (by (try simp only[bb,toN]);exact c2)];rfl
def zBq (a:Int) (b:Int):Int:=if (bif decide (a=1)then true else decide (b=1))=true then 1 else if (bif decide (a=2)then true else decide (b=2))=true then 2 else 0
theorem zYu (a:Int) (b:Int):GC Tryz.prog 187 [iG a,iG b] (iG (zBq a b)):=by
 refine zA Tryz.func187 ?_
 refine gE [0,1,4] ?_
 refine gE [0,1,4,5] ?_
 refine zF ?_ ?_<;>intro c1<;>try simp only[bb,toN]at c1
 ·refine gE [4] ?_
  refine gT ?_
  rw[zBq,iP (by (try simp only[bb,toN]);exact c1)];rfl
 refine gE [4,12] ?_
 refine zF ?_ ?_<;>intro c2<;>try simp only[bb,toN]at c2
 ·refine gE [4] ?_
  refine gT ?_
  rw[zBq,iN (by (try simp only[bb,toN]);exact c1),iP (by (try simp only[bb,toN]);exact c2)];rfl
 refine gE [4] ?_
 refine gT ?_
 rw[zBq,iN (by (try simp only[bb,toN]);exact c1),iN (by (try simp only[bb,toN]);exact c2)];rfl
def yJ (f:Fil) (i:Int) (a5_1:Int) (k1:Nat):Int:=if k1<f.bH.length then if ((f.bH.getD k1 dF).at_)<=i then yJ f i ((f.bH.getD k1 dF).sum) (k1+1)else yJ f i a5_1 (k1+1)else a5_1
termination_by f.bH.length-k1
def jh (f:Fil) (i:Int):Int:=yJ f i f.bill.sum 0
theorem zOj (f:Fil) (i:Int) (hl:f.bH.length<=9223372036854775807):GC Tryz.prog 220 [fiG f,iG i] (iG (jh f i)):=by
 refine zA Tryz.func220 ?_
 refine gE [1,2,4] ?_
 refine gE [1,2,4,5] ?_
 refine gE [1,4,5,12,13,14] ?_
 refine zI (α:=Int×Nat) (fun x=>x.2<=f.bH.length/\yJ f i f.bill.sum 0=yJ f i x.1 x.2) (fun x=>[(5,iG x.1),(14,iG x.2)]) (fun x=>[]) (fun x=>f.bH.length-x.2) (f.bill.sum,0) ⟨by (try simp only[]);omega,rfl⟩ ?_ (hp:=t40)
 rintro ⟨a5_1,k1⟩ ⟨hi1,he⟩
 dsimp only at*
 refine gE [1,4,5,12,13,14,15] ?_
 refine zB ?_ ?_<;>intro c1<;>try simp only[toN]at c1
 ·refine gE [1,4,5,7,12,13,14] ?_
  refine gE [1,4,5,7,12,13,14,21] ?_
  refine zB ?_ ?_<;>intro c2<;>try simp only[toN]at c2
  ·refine gE [1,4,5,12,13,14] ?_
   refine gE [1,4,5,12,13,14] ?_
   refine zD (((f.bH.getD k1 dF).sum,k1+1)) ?_ (hp:=t40) (hm:=by dsimp only;omega)
   refine ⟨by (try simp only[]);omega,he.trans ?_⟩
   rw[yJ,iP t11,iP c2]
   try rfl
  refine gE [1,4,5,12,13,14] ?_
  refine zD ((a5_1,k1+1)) ?_ (hp:=t40) (hm:=by dsimp only;omega)
  refine ⟨by (try simp only[]);omega,he.trans ?_⟩
  rw[yJ,iP t11,iQ c2]
  try rfl
 refine gE [4] ?_
 refine gT ?_
 rw[jh,he,yJ,iQ t11];rfl
def QK (rates:List Rt) (fr:Int) (dst:Int) (day:Int) (a9_1:Int) (k1:Nat):Int:=if k1<rates.length then if (bif (bif (bif decide (((rates.getD k1 dF).fr)=fr)then decide (((rates.getD k1 dF).dst)=dst)else false)then decide (((rates.getD k1 dF).since)<=day)else false)then (bif decide (a9_1<0)then true else decide (((rates.getD a9_1.toNat dF).since)<((rates.getD k1 dF).since)))else false)=true then QK rates fr dst day k1 (k1+1)else QK rates fr dst day a9_1 (k1+1)else a9_1
termination_by rates.length-k1
def qU (rates:List Rt) (fr:Int) (dst:Int) (day:Int):Int:=QK rates fr dst day (-1) 0
theorem zHq (rates:List Rt) (fr:Int) (dst:Int) (day:Int) (hl:rates.length<=9223372036854775807):GC Tryz.prog 229 [.d (.row dF rtC rates),iG fr,iG dst,iG day] (iG (qU rates fr dst day)):=by
 refine zA Tryz.func229 ?_
 refine gE [0,1,2,3,8] ?_
 refine gE [0,1,2,3,8,9] ?_
 refine gE [0,1,2,3,8,9,12,13,14] ?_
 refine zI (α:=Int×Nat) (fun x=>x.2<=rates.length/\QK rates fr dst day (-1) 0=QK rates fr dst day x.1 x.2/\(fun (a:Int) (k:Nat)=>a<k) x.1 x.2) (fun x=>[(9,iG x.1),(14,iG x.2)]) (fun x=>[]) (fun x=>rates.length-x.2) ((-1),0) ⟨by (try simp only[]);omega,rfl,by dsimp only;omega⟩ ?_ (hp:=t40)
 rintro ⟨a9_1,k1⟩ ⟨hi1,he,hv1⟩
 dsimp only at*
 refine gE [0,1,2,3,8,9,12,13,14,15] ?_
 refine zB ?_ ?_<;>intro c1<;>try simp only[toN]at c1
 ·refine gE [0,1,2,3,8,9,10,11,12,13,14] ?_
  refine gE [0,1,2,3,8,9,10,12,13,14,48] ?_
  refine zF ?_ ?_<;>intro c2<;>try simp only[bb,toN]at c2
  ·refine gE [0,1,2,3,8,9,12,13,14] ?_
   refine gE [0,1,2,3,8,9,12,13,14] ?_
   refine zD ((k1,k1+1)) ?_ (hp:=t40) (hm:=by dsimp only;omega)
   refine ⟨by (try simp only[]);omega,he.trans ?_,by dsimp only;omega⟩
   rw[QK,iP t11,iP (by (try simp only[bb,toN]);exact c2)]
   try rfl
  refine gE [0,1,2,3,8,9,12,13,14] ?_
  refine zD ((a9_1,k1+1)) ?_ (hp:=t40) (hm:=by dsimp only;omega)
  refine ⟨by (try simp only[]);omega,he.trans ?_,by dsimp only;omega⟩
  rw[QK,iP t11,iN (by (try simp only[bb,toN]);exact c2)]
  try rfl
 refine gE [8] ?_
 refine gT ?_
 rw[qU,he,QK,iQ t11];rfl
def jr (a:Act) (str:Bool) (c:Clm):Bool:=(bif decide (c.bI=a.to_)then true else (bif decide (c.bI=(-1))then str else false))
theorem zQm (a:Act) (str:Bool) (c:Clm):GC Tryz.prog 105 [acG a,bG str,clG c] (bG (jr a str c)):=by
 refine zA Tryz.func105 ?_
 refine gE [1,3,5,6] ?_
 refine gE [6] ?_
 refine gT ?_
 rw[jr];rfl
def zIf (a:Act) (c:Clm):Bool:=if a.at_=c.sign then (bif decide (a.kind=9)then true else (bif decide (a.kind=8)then (bif decide (c.bI=(-1))then true else decide (a.who=c.bI))else false))else false
theorem zXr (a:Act) (c:Clm):GC Tryz.prog 95 [acG a,clG c] (bG (zIf a c)):=by
 refine zA Tryz.func95 ?_
 refine gE [2,3,4] ?_
 refine gE [2,3,4,9] ?_
 refine zQ ?_ ?_<;>intro c1<;>try simp only[toN]at c1
 ·refine gE [2,3,4] ?_
  refine gT ?_
  rw[zIf,iQ c1];rfl
 refine gE [4] ?_
 refine gT ?_
 rw[zIf,iP c1];rfl
def JJ (f:Fil) (day:Int) (b2_1:List Sgn) (b2_3:List Act) (k3:Nat) (b2_2:List Alt) (k4:Nat) (b2_4:List Fct):Fil:=if k4<f.facts.length then if (WR ((f.facts.getD k4 dF).at_) (b2_1.length:Int))=true then JJ f day b2_1 b2_3 k3 b2_2 (k4+1) (b2_4++ [(f.facts.getD k4 dF)])else JJ f day b2_1 b2_3 k3 b2_2 (k4+1) b2_4 else ⟨f.bill,b2_1,b2_2,b2_3,b2_4⟩
termination_by f.facts.length-k4
def Jx (f:Fil) (day:Int) (b2_1:List Sgn) (b2_3:List Act) (k3:Nat) (b2_2:List Alt):Fil:=if k3<f.bH.length then if ((f.bH.getD k3 dF).at_)<=(b2_1.length:Int)then Jx f day b2_1 b2_3 (k3+1) (b2_2++ [(f.bH.getD k3 dF)])else Jx f day b2_1 b2_3 (k3+1) b2_2 else JJ f day b2_1 b2_3 k3 b2_2 0 []
termination_by f.bH.length-k3
def Xg (f:Fil) (day:Int) (b2_1:List Sgn) (b2_3:List Act):Fil:=Jx f day b2_1 b2_3 0 []
def wn (f:Fil) (day:Int) (b2_1:List Sgn) (k2:Nat) (b2_3:List Act):Fil:=if k2<f.acts.length then if day<((f.acts.getD k2 dF).day)then Xg f day b2_1 b2_3 else wn f day b2_1 (k2+1) (b2_3++ [(f.acts.getD k2 dF)])else Xg f day b2_1 b2_3
termination_by f.acts.length-k2
def UG (f:Fil) (day:Int) (b2_1:List Sgn):Fil:=wn f day b2_1 0 []
def Ue (f:Fil) (day:Int) (k1:Nat) (b2_1:List Sgn):Fil:=if k1<f.bF.length then if day<((f.bF.getD k1 dF).day)then UG f day b2_1 else Ue f day (k1+1) (b2_1++ [(f.bF.getD k1 dF)])else UG f day b2_1
termination_by f.bF.length-k1
def atV (f:Fil) (day:Int):Fil:=Ue f day 0 []
theorem at_ok (f:Fil) (day:Int) (h1:f.bF.length<=2000000) (h2:f.bH.length<=2000000) (h3:f.acts.length<=2000000) (h4:f.facts.length<=2000000):GC Tryz.prog 13 [fiG f,iG day] (fiG (atV f day)):=by
 refine zA Tryz.func13 ?_
 refine gE [1,2,4] ?_
 refine gE [1,2,4,5] ?_
 refine gE [1,2,4,5,18,19,20] ?_
 refine Qm 2 15 45 9 (dF:Sgn) sgC ?_
 refine uZ (α:=List Sgn) (fun x=>atV f day=UG f day x/\x.length<=f.bF.length) (fun x=>⟨[(1,iG day),(2,.ptr 0 0 0 0),(4,.ptr 1 0 0 0),(5,.ptr 2 0 0 0)],[(0,some (.box [iG f.bill.bP,iG f.bill.bO,iG f.bill.bQ,iG f.bill.sum,iG f.bill.cur,iG f.bill.ten.kind,iG f.bill.ten.n,iG f.bill.ten.unit,iG f.bill.day,iG f.bill.city,iG f.bill.pay,iG f.bill.need,iG f.bill.rate,iG f.bill.flags,iG f.bill.parts,.d (.row dF sgC f.bF),.d (.row dF alC f.bH),.d (.row dF acC f.acts),.d (.row dF fcC f.facts)])),(1,some (.box [iG 0,iG 0,iG 0,iG 0,iG 0,iG 0,iG 0,iG 0,iG 0,iG 0,iG 0,iG 0,iG 0,iG 0,iG 0,.d (.sc (.slice none 0 0)),.d (.sc (.slice none 0 0)),.d (.sc (.slice none 0 0)),.d (.sc (.slice none 0 0))])),(2,some (.box [iG f.bill.bP,iG f.bill.bO,iG f.bill.bQ,iG f.bill.sum,iG f.bill.cur,iG f.bill.ten.kind,iG f.bill.ten.n,iG f.bill.ten.unit,iG f.bill.day,iG f.bill.city,iG f.bill.pay,iG f.bill.need,iG f.bill.rate,iG f.bill.flags,iG f.bill.parts,.sl 3 9 0 x.length,.d (.sc (.slice none 0 0)),.d (.sc (.slice none 0 0)),.d (.sc (.slice none 0 0))])),(3,some (.row 45 9 dF sgC x 0))],4⟩) ?_ ?_
 ·rintro b2_1 ⟨hj1,hm0⟩
  refine gE [1,2,4,5,36,37,38] ?_
  refine Qm 2 17 66 9 (dF:Act) acC ?_
  refine uZ (α:=List Act) (fun x=>atV f day=Xg f day b2_1 x/\x.length<=f.acts.length) (fun x=>⟨[(2,.ptr 0 0 0 0),(4,.ptr 1 0 0 0),(5,.ptr 2 0 0 0)],[(0,some (.box [iG f.bill.bP,iG f.bill.bO,iG f.bill.bQ,iG f.bill.sum,iG f.bill.cur,iG f.bill.ten.kind,iG f.bill.ten.n,iG f.bill.ten.unit,iG f.bill.day,iG f.bill.city,iG f.bill.pay,iG f.bill.need,iG f.bill.rate,iG f.bill.flags,iG f.bill.parts,.d (.row dF sgC f.bF),.d (.row dF alC f.bH),.d (.row dF acC f.acts),.d (.row dF fcC f.facts)])),(1,some (.box [iG 0,iG 0,iG 0,iG 0,iG 0,iG 0,iG 0,iG 0,iG 0,iG 0,iG 0,iG 0,iG 0,iG 0,iG 0,.d (.sc (.slice none 0 0)),.d (.sc (.slice none 0 0)),.d (.sc (.slice none 0 0)),.d (.sc (.slice none 0 0))])),(2,some (.box [iG f.bill.bP,iG f.bill.bO,iG f.bill.bQ,iG f.bill.sum,iG f.bill.cur,iG f.bill.ten.kind,iG f.bill.ten.n,iG f.bill.ten.unit,iG f.bill.day,iG f.bill.city,iG f.bill.pay,iG f.bill.need,iG f.bill.rate,iG f.bill.flags,iG f.bill.parts,.sl 3 9 0 b2_1.length,.d (.sc (.slice none 0 0)),.sl 4 9 0 x.length,.d (.sc (.slice none 0 0))])),(3,some (.row 45 9 dF sgC b2_1 0)),(4,some (.row 66 9 dF acC x 0))],5⟩) ?_ ?_
  ·rintro b2_3 ⟨hj2,hm0⟩
   refine gE [2,4,5,54,55,56] ?_
   refine Qm 2 16 84 2 (dF:Alt) alC ?_
   refine zI (α:=Nat×List Alt) (fun x=>x.1<=f.bH.length/\Jx f day b2_1 b2_3 0 []=Jx f day b2_1 b2_3 x.1 x.2/\x.2.length<=x.1) (fun x=>[(56,iG x.1)]) (fun x=>[(5,some (.row 84 2 dF alC x.2 0)),(2,some (.box [iG f.bill.bP,iG f.bill.bO,iG f.bill.bQ,iG f.bill.sum,iG f.bill.cur,iG f.bill.ten.kind,iG f.bill.ten.n,iG f.bill.ten.unit,iG f.bill.day,iG f.bill.city,iG f.bill.pay,iG f.bill.need,iG f.bill.rate,iG f.bill.flags,iG f.bill.parts,.sl 3 9 0 b2_1.length,.sl 5 2 0 x.2.length,.sl 4 9 0 b2_3.length,.d (.sc (.slice none 0 0))]))]) (fun x=>f.bH.length-x.1) (0,[]) ⟨by (try simp only[]);omega,rfl,by first|omega|(simp;done)|(simp only[List.length_append,List.length_cons,List.length_nil,List.length_set,List.length_replicate];omega)⟩ ?_ (hp:=t40)
   rintro ⟨k3,b2_2⟩ ⟨hi3,he3,hl_b2_2⟩
   dsimp only at*
   refine gE [2,4,5,54,55,56,57] ?_
   refine zB ?_ ?_<;>intro c1<;>try simp only[toN]at c1
   ·refine gE [2,4,5,11,54,55,56] ?_
    refine gE [2,4,5,11,54,55,56,65] ?_
    refine zB ?_ ?_<;>intro c2<;>try simp only[toN]at c2
    ·refine gU [.el dF alC ([(f.bH.getD k3 dF)]:List Alt),.el dF alC (b2_2++ [(f.bH.getD k3 dF)])] [2,4,5,54,55,56] ?_
     refine gE [2,4,5,54,55,56] ?_
     refine zD ((k3+1,b2_2++ [(f.bH.getD k3 dF)])) ?_ (hp:=t40) (hm:=by dsimp only;omega)
     refine ⟨by (try simp only[]);omega,he3.trans ?_,by first|omega|(simp;done)|(simp only[List.length_append,List.length_cons,List.length_nil,List.length_set,List.length_replicate];omega)⟩
     rw[Jx,iP t11,iP c2]
     try rfl
    refine gE [2,4,5,54,55,56] ?_
    refine zD ((k3+1,b2_2)) ?_ (hp:=t40) (hm:=by dsimp only;omega)
    refine ⟨by (try simp only[]);omega,he3.trans ?_,by first|omega|(simp;done)|(simp only[List.length_append,List.length_cons,List.length_nil,List.length_set,List.length_replicate];omega)⟩
    rw[Jx,iP t11,iQ c2]
    try rfl
   refine gE [4,5,74,75,76] ?_
   refine Qm 2 18 47 3 (dF:Fct) fcC ?_
   refine zI (α:=Nat×List Fct) (fun x=>x.1<=f.facts.length/\JJ f day b2_1 b2_3 k3 b2_2 0 []=JJ f day b2_1 b2_3 k3 b2_2 x.1 x.2/\x.2.length<=x.1) (fun x=>[(76,iG x.1)]) (fun x=>[(6,some (.row 47 3 dF fcC x.2 0)),(2,some (.box [iG f.bill.bP,iG f.bill.bO,iG f.bill.bQ,iG f.bill.sum,iG f.bill.cur,iG f.bill.ten.kind,iG f.bill.ten.n,iG f.bill.ten.unit,iG f.bill.day,iG f.bill.city,iG f.bill.pay,iG f.bill.need,iG f.bill.rate,iG f.bill.flags,iG f.bill.parts,.sl 3 9 0 b2_1.length,.sl 5 2 0 b2_2.length,.sl 4 9 0 b2_3.length,.sl 6 3 0 x.2.length]))]) (fun x=>f.facts.length-x.1) (0,[]) ⟨by (try simp only[]);omega,rfl,by first|omega|(simp;done)|(simp only[List.length_append,List.length_cons,List.length_nil,List.length_set,List.length_replicate];omega)⟩ ?_ (hp:=t40)
   rintro ⟨k4,b2_4⟩ ⟨hi4,he4,hl_b2_4⟩
   dsimp only at*
   refine gE [4,5,74,75,76,77] ?_
   refine zB ?_ ?_<;>intro c3<;>try simp only[toN]at c3
   ·refine gE [4,5,13,74,75,76] ?_
    refine gR [.call (Jz ((f.facts.getD k4 dF).at_) (b2_1.length:Int))] [4,5,13,74,75,76,85] ?_
    refine zF ?_ ?_<;>intro c4<;>try simp only[bb,toN]at c4
    ·refine gU [.el dF fcC ([(f.facts.getD k4 dF)]:List Fct),.el dF fcC (b2_4++ [(f.facts.getD k4 dF)])] [4,5,74,75,76] ?_
     refine gE [4,5,74,75,76] ?_
     refine zD ((k4+1,b2_4++ [(f.facts.getD k4 dF)])) ?_ (hp:=t40) (hm:=by dsimp only;omega)
     refine ⟨by (try simp only[]);omega,he4.trans ?_,by first|omega|(simp;done)|(simp only[List.length_append,List.length_cons,List.length_nil,List.length_set,List.length_replicate];omega)⟩
     rw[JJ,iP t11,iP (by (try simp only[bb,toN]);exact c4)]
     try rfl
    refine gE [4,5,74,75,76] ?_
    refine zD ((k4+1,b2_4)) ?_ (hp:=t40) (hm:=by dsimp only;omega)
    refine ⟨by (try simp only[]);omega,he4.trans ?_,by first|omega|(simp;done)|(simp only[List.length_append,List.length_cons,List.length_nil,List.length_set,List.length_replicate];omega)⟩
    rw[JJ,iP t11,iN (by (try simp only[bb,toN]);exact c4)]
    try rfl
   refine gE [4] ?_
   refine gT ?_
   rw[hj2,Xg,he3,Jx,iQ t11,he4,JJ,iQ t11];rfl
  refine zI (α:=Nat×List Act) (fun x=>x.1<=f.acts.length/\wn f day b2_1 0 []=wn f day b2_1 x.1 x.2/\x.2.length<=x.1) (fun x=>[(38,iG x.1)]) (fun x=>[(4,some (.row 66 9 dF acC x.2 0)),(2,some (.box [iG f.bill.bP,iG f.bill.bO,iG f.bill.bQ,iG f.bill.sum,iG f.bill.cur,iG f.bill.ten.kind,iG f.bill.ten.n,iG f.bill.ten.unit,iG f.bill.day,iG f.bill.city,iG f.bill.pay,iG f.bill.need,iG f.bill.rate,iG f.bill.flags,iG f.bill.parts,.sl 3 9 0 b2_1.length,.d (.sc (.slice none 0 0)),.sl 4 9 0 x.2.length,.d (.sc (.slice none 0 0))]))]) (fun x=>f.acts.length-x.1) (0,[]) ⟨by (try simp only[]);omega,rfl,by first|omega|(simp;done)|(simp only[List.length_append,List.length_cons,List.length_nil,List.length_set,List.length_replicate];omega)⟩ ?_ (hp:=t40)
  rintro ⟨k2,b2_3⟩ ⟨hi2,he2,hl_b2_3⟩
  dsimp only at*
  refine gE [1,2,4,5,36,37,38,39] ?_
  refine zB ?_ ?_<;>intro c5<;>try simp only[toN]at c5
  ·refine gE [1,2,4,5,9,36,37,38] ?_
   refine gE [1,2,4,5,9,36,37,38,45] ?_
   refine zB ?_ ?_<;>intro c6<;>try simp only[toN]at c6
   ·refine zV (b2_3) ?_ (hp:=t40)
    exact ⟨by rw[hj1,UG,he2,wn,iP t11,iP c6],by first|omega|(simp;done)|(simp only[List.length_append,List.length_cons,List.length_nil,List.length_set,List.length_replicate];omega)⟩
   refine gU [.el dF acC ([(f.acts.getD k2 dF)]:List Act),.el dF acC (b2_3++ [(f.acts.getD k2 dF)])] [1,2,4,5,36,37,38] ?_
   refine gE [1,2,4,5,36,37,38] ?_
   refine zD ((k2+1,b2_3++ [(f.acts.getD k2 dF)])) ?_ (hp:=t40) (hm:=by dsimp only;omega)
   refine ⟨by (try simp only[]);omega,he2.trans ?_,by first|omega|(simp;done)|(simp only[List.length_append,List.length_cons,List.length_nil,List.length_set,List.length_replicate];omega)⟩
   rw[wn,iP t11,iQ c6]
   try rfl
  refine zV (b2_3) ?_ (hp:=t40)
  exact ⟨by rw[hj1,UG,he2,wn,iQ t11],by first|omega|(simp;done)|(simp only[List.length_append,List.length_cons,List.length_nil,List.length_set,List.length_replicate];omega)⟩
 refine zI (α:=Nat×List Sgn) (fun x=>x.1<=f.bF.length/\Ue f day 0 []=Ue f day x.1 x.2/\x.2.length<=x.1) (fun x=>[(20,iG x.1)]) (fun x=>[(3,some (.row 45 9 dF sgC x.2 0)),(2,some (.box [iG f.bill.bP,iG f.bill.bO,iG f.bill.bQ,iG f.bill.sum,iG f.bill.cur,iG f.bill.ten.kind,iG f.bill.ten.n,iG f.bill.ten.unit,iG f.bill.day,iG f.bill.city,iG f.bill.pay,iG f.bill.need,iG f.bill.rate,iG f.bill.flags,iG f.bill.parts,.sl 3 9 0 x.2.length,.d (.sc (.slice none 0 0)),.d (.sc (.slice none 0 0)),.d (.sc (.slice none 0 0))]))]) (fun x=>f.bF.length-x.1) (0,[]) ⟨by (try simp only[]);omega,rfl,by first|omega|(simp;done)|(simp only[List.length_append,List.length_cons,List.length_nil,List.length_set,List.length_replicate];omega)⟩ ?_ (hp:=t40)
 rintro ⟨k1,b2_1⟩ ⟨hi1,he,hl_b2_1⟩
 dsimp only at*
 refine gE [1,2,4,5,18,19,20,21] ?_
 refine zB ?_ ?_<;>intro c7<;>try simp only[toN]at c7
 ·refine gE [1,2,4,5,7,18,19,20] ?_
  refine gE [1,2,4,5,7,18,19,20,27] ?_
  refine zB ?_ ?_<;>intro c8<;>try simp only[toN]at c8
  ·refine zV (b2_1) ?_ (hp:=t40)
   exact ⟨by rw[atV,he,Ue,iP t11,iP c8],by first|omega|(simp;done)|(simp only[List.length_append,List.length_cons,List.length_nil,List.length_set,List.length_replicate];omega)⟩
  refine gU [.el dF sgC ([(f.bF.getD k1 dF)]:List Sgn),.el dF sgC (b2_1++ [(f.bF.getD k1 dF)])] [1,2,4,5,18,19,20] ?_
  refine gE [1,2,4,5,18,19,20] ?_
  refine zD ((k1+1,b2_1++ [(f.bF.getD k1 dF)])) ?_ (hp:=t40) (hm:=by dsimp only;omega)
  refine ⟨by (try simp only[]);omega,he.trans ?_,by first|omega|(simp;done)|(simp only[List.length_append,List.length_cons,List.length_nil,List.length_set,List.length_replicate];omega)⟩
  rw[Ue,iP t11,iQ c8]
  try rfl
 refine zV (b2_1) ?_ (hp:=t40)
 exact ⟨by rw[atV,he,Ue,iQ t11],by first|omega|(simp;done)|(simp only[List.length_append,List.length_cons,List.length_nil,List.length_set,List.length_replicate];omega)⟩
theorem zUg (f:Fil) (day:Int) (S:List Sgn) (A:List Act) (k3:Nat) (L:List Alt):∀(n k:Nat) (acc:List Fct),f.facts.length-k=n->JJ f day S A k3 L k acc=⟨f.bill,S,L,A,acc++(f.facts.drop k).filter fun x=>WR x.at_ S.length⟩:=by
 intro n
 induction n with
 |zero=>intro k acc h;rw[JJ,iQ t11,JH t11];simp
 |succ n ih=>
  intro k acc h
  rw[JJ,iP t11,Ya t11,List.filter_cons]
  split
  ·rw[ih _ _ t11];simp
  rw[ih _ _ t11]
theorem zUh (f:Fil) (day:Int) (S:List Sgn) (A:List Act):∀(n k:Nat) (acc:List Alt),f.bH.length-k=n->∃k3,Jx f day S A k acc=JJ f day S A k3 (acc++(f.bH.drop k).filter fun x=>decide (x.at_<=(S.length:Int))) 0 []:=by
 intro n
 induction n with
 |zero=>intro k acc h;rw[Jx,iQ t11,JH t11];simp;exact ⟨_,rfl⟩
 |succ n ih=>
  intro k acc h
  rw[Jx,iP t11,Ya t11,List.filter_cons]
  split
  ·rename_i hc
   obtain ⟨k3,h3⟩:=ih (k+1) (acc++ [f.bH.getD k dF]) t11
   rw[h3,iP (by simpa using hc)];exact ⟨k3,by simp⟩
  rename_i hc
  obtain ⟨k3,h3⟩:=ih (k+1) acc t11
  rw[h3,iQ (by simpa using hc)];exact ⟨k3,rfl⟩
theorem zUi (f:Fil) (day:Int) (S:List Sgn):∀(n k:Nat) (acc:List Act),f.acts.length-k=n->wn f day S k acc=Xg f day S (acc++(f.acts.drop k).takeWhile fun x=> !decide (day<x.day)):=by
 intro n
 induction n with
 |zero=>intro k acc h;rw[wn,iQ t11,JH t11];simp
 |succ n ih=>
  intro k acc h
  rw[wn,iP t11,Ya t11,List.takeWhile_cons]
  split
  ·rename_i hc;rw[iQ (by rw[decide_eq_true hc];simp),List.append_nil]
  rename_i hc;rw[ih _ _ t11,iP (by rw[decide_eq_false hc];rfl),List.append_assoc];rfl
theorem zZz (f:Fil) (day:Int):∀(n k:Nat) (acc:List Sgn),f.bF.length-k=n->Ue f day k acc=UG f day (acc++(f.bF.drop k).takeWhile fun x=> !decide (day<x.day)):=by
 intro n
 induction n with
 |zero=>intro k acc h;rw[Ue,iQ t11,JH t11];simp
 |succ n ih=>
  intro k acc h
  rw[Ue,iP t11,Ya t11,List.takeWhile_cons]
  split
  ·rename_i hc;rw[iQ (by rw[decide_eq_true hc];simp),List.append_nil]
  rename_i hc;rw[ih _ _ t11,iP (by rw[decide_eq_false hc];rfl),List.append_assoc];rfl
def upto (l:List Sgn) (day:Int):List Sgn:=l.takeWhile fun x=> !decide (day<x.day)
theorem ZQ (f:Fil) (day:Int):atV f day=⟨f.bill,upto f.bF day,f.bH.filter fun x=>decide (x.at_<=((upto f.bF day).length:Int)),f.acts.takeWhile fun x=> !decide (day<x.day),f.facts.filter fun x=>WR x.at_ (upto f.bF day).length⟩:=by
 rw[atV,zZz f day _ 0 [] rfl,UG,zUi f day _ _ 0 [] rfl,Xg]
 obtain ⟨k3,h⟩:=zUh f day ([]++(f.bF.drop 0).takeWhile fun x=> !decide (day<x.day)) ([]++(f.acts.drop 0).takeWhile fun x=> !decide (day<x.day)) _ 0 [] rfl
 rw[h,zUg f day _ _ _ _ _ 0 [] rfl]
 rfl
def vo (a:Alt) (c:Cas):Bool:=decide (a.at_<=c.sign)
theorem zOa (a:Alt) (c:Cas):GC Tryz.prog 239 [alG a,.ep (caC c)] (bG (vo a c)):=by
 refine zA Tryz.func239 ?_
 refine gE [1,2,3] ?_
 refine gE [3] ?_
 refine gT ?_
 rw[vo];rfl
theorem KX (l:List Alt) (hl:l.length<=9223372036854775807) (c:Cas):GC Tryz.prog 268 [.d (.row dF alC l),.fn (.func 239) [] [.ep (caC c)]] (iG (zR (fun y=>vo y c) l 0)):=by
 refine zA Tryz.func268 ?_
 refine gE [0,1,4] ?_
 refine gE [0,1,4,7,8] ?_
 refine zI (α:=Nat) (fun i=>i<=l.length/\zR (fun y=>vo y c) l 0=zR (fun y=>vo y c) (l.drop i) i) (fun i=>[(8,iG i)]) (fun _=>[]) (fun i=>l.length-i) 0 ⟨by omega,rfl⟩ ?_ (hp:=t40)
 rintro i ⟨hi,he⟩
 refine gE [0,1,4,7,8,9] ?_
 refine zB ?_ ?_<;>intro c1<;>try simp only[toN]at c1
 ·refine gE [0,1,4,5,7,8] ?_
  refine gR [.call (zOa (l.getD i dF) c)] [0,1,4,5,7,8,16] ?_
  refine zF ?_ ?_<;>intro c2<;>try simp only[bb,toN]at c2
  ·refine gE [0,1,4,7,8] ?_
   refine gT ?_
   rw[he,Ya t11,zR,iP (by exact c2)];rfl
  refine gE [0,1,4,7,8] ?_
  refine zD (i+1) ?_ (hp:=t40)
  refine ⟨by omega,he.trans ?_⟩
  rw[Ya t11,zR,iQ (by rw[Bool.not_eq_true];exact c2)]
 refine gE [4] ?_
 refine gT ?_
 rw[he,JH t11];rfl
theorem Kd (l:List Alt) (hl:l.length<=9223372036854775807) (c:Cas):GC Tryz.prog 238 [.d (.row dF alC l),.fn (.func 239) [] [.ep (caC c)]] (bG (l.any (fun y=>vo y c))):=by
 refine zA Tryz.func238 ?_
 refine gE [0,1,4] ?_
 refine gR [.call (KX l hl c)] [4] ?_
 refine gT ?_
 rw[<-qz];rfl
def UV (o:Int) (n:Int):Bool:=(bif decide (o<0)then true else decide (n<=o))
theorem zSm (o:Int) (n:Int):GC Tryz.prog 243 [iG o,.ep [.sc (.int .i64 n)]] (bG (UV o n)):=by
 refine zA Tryz.func243 ?_
 refine gE [0,1,3] ?_
 refine gE [3] ?_
 refine gT ?_
 rw[UV];rfl
theorem KZ (l:List Int) (hl:l.length<=9223372036854775807) (n:Int):GC Tryz.prog 269 [.d (.row dF inC l),.fn (.func 243) [] [.ep [.sc (.int .i64 n)]]] (iG (zR (fun y=>UV y n) l 0)):=by
 refine zA Tryz.func269 ?_
 refine gE [0,1,4] ?_
 refine gE [0,1,4,7,8] ?_
 refine zI (α:=Nat) (fun i=>i<=l.length/\zR (fun y=>UV y n) l 0=zR (fun y=>UV y n) (l.drop i) i) (fun i=>[(8,iG i)]) (fun _=>[]) (fun i=>l.length-i) 0 ⟨by omega,rfl⟩ ?_ (hp:=t40)
 rintro i ⟨hi,he⟩
 refine gE [0,1,4,7,8,9] ?_
 refine zB ?_ ?_<;>intro c1<;>try simp only[toN]at c1
 ·refine gE [0,1,4,5,7,8] ?_
  refine gR [.call (zSm (l.getD i dF) n)] [0,1,4,5,7,8,16] ?_
  refine zF ?_ ?_<;>intro c2<;>try simp only[bb,toN]at c2
  ·refine gE [0,1,4,7,8] ?_
   refine gT ?_
   rw[he,Ya t11,zR,iP (by exact c2)];rfl
  refine gE [0,1,4,7,8] ?_
  refine zD (i+1) ?_ (hp:=t40)
  refine ⟨by omega,he.trans ?_⟩
  rw[Ya t11,zR,iQ (by rw[Bool.not_eq_true];exact c2)]
 refine gE [4] ?_
 refine gT ?_
 rw[he,JH t11];rfl
theorem Ke (l:List Int) (hl:l.length<=9223372036854775807) (n:Int):GC Tryz.prog 242 [.d (.row dF inC l),.fn (.func 243) [] [.ep [.sc (.int .i64 n)]]] (bG (l.any (fun y=>UV y n))):=by
 refine zA Tryz.func242 ?_
 refine gE [0,1,4] ?_
 refine gR [.call (KZ l hl n)] [4] ?_
 refine gT ?_
 rw[<-qz];rfl
def vn (x:Rul) (ask:Int):Bool:=decide (x.ask=ask)
theorem zSo (x:Rul) (ask:Int):GC Tryz.prog 215 [rulG x,.ep [.sc (.int .i64 ask)]] (bG (vn x ask)):=by
 refine zA Tryz.func215 ?_
 refine gE [1,2,3] ?_
 refine gE [3] ?_
 refine gT ?_
 rw[vn];rfl
theorem Kc (l:List Rul) (hl:l.length<=9223372036854775807) (ask:Int):GC Tryz.prog 214 [.d (.row dF zDr l),.fn (.func 215) [] [.ep [.sc (.int .i64 ask)]]] (iG (zR (fun y=>vn y ask) l 0)):=by
 refine zA Tryz.func214 ?_
 refine gE [0,1,4] ?_
 refine gE [0,1,4,7,8] ?_
 refine zI (α:=Nat) (fun i=>i<=l.length/\zR (fun y=>vn y ask) l 0=zR (fun y=>vn y ask) (l.drop i) i) (fun i=>[(8,iG i)]) (fun _=>[]) (fun i=>l.length-i) 0 ⟨by omega,rfl⟩ ?_ (hp:=t40)
 rintro i ⟨hi,he⟩
 refine gE [0,1,4,7,8,9] ?_
 refine zB ?_ ?_<;>intro c1<;>try simp only[toN]at c1
 ·refine gE [0,1,4,5,7,8] ?_
  refine gR [.call (zSo (l.getD i dF) ask)] [0,1,4,5,7,8,16] ?_
  refine zF ?_ ?_<;>intro c2<;>try simp only[bb,toN]at c2
  ·refine gE [0,1,4,7,8] ?_
   refine gT ?_
   rw[he,Ya t11,zR,iP (by exact c2)];rfl
  refine gE [0,1,4,7,8] ?_
  refine zD (i+1) ?_ (hp:=t40)
  refine ⟨by omega,he.trans ?_⟩
  rw[Ya t11,zR,iQ (by rw[Bool.not_eq_true];exact c2)]
 refine gE [4] ?_
 refine gT ?_
 rw[he,JH t11];rfl
def Wu (r:Rlm) (order:Int) (ask:Int) (places:List Int):Bool:=if (bif (bif (bif (bif decide (order<0)then true else decide ((r.bD.length:Int)<=order))then true else decide (ask<0))then true else decide (22<=ask))then true else (!decide ((places.length:Int)=5)))=true then false else (!(places.any (fun y=>UV y (r.bD.length:Int))))
theorem zIm (r:Rlm) (order:Int) (ask:Int) (places:List Int) (hr:FitR r) (hp:places.length<=9223372036854775807):GC Tryz.prog 212 [rlG r,iG order,iG ask,.d (.row dF inC places)] (bG (Wu r order ask places)):=by
 have h1:=hr.bD
 refine zA Tryz.func212 ?_
 refine gE [1,2,3,4,8] ?_
 refine gE [1,2,3,8,9] ?_
 refine gE [3,8,9,32] ?_
 refine zF ?_ ?_<;>intro c1<;>try simp only[bb,toN]at c1
 ·refine gE [3,8,9] ?_
  refine gT ?_
  rw[Wu,iP (by (try simp only[bb,toN]);exact c1)];rfl
 refine ZA 1 ?_
 refine gR [.call (Ke places t11 (r.bD.length:Int))] [8] ?_
 refine gT ?_
 rw[Wu,iN (by (try simp only[bb,toN]);exact c1)];rfl
structure RightR (r:Rlm):Prop where
 fit:FitR r
 by_:∀o,o∈r.bD->∀c,c∈o.bL->0<=c.by_/\c.by_<5
 len:∀o,o∈r.bD->o.bL.length<=1000/\o.rules.length<=1000
 ordC:∀c,c∈r.bB->0<=c.ord/\c.ord<r.bD.length/\0<=c.cur/\c.cur<r.bA.length
 firmC:∀c,c∈r.bC->0<=c.city/\c.city<r.bB.length
 rate:∀x,x∈r.rates->1<=x.num/\x.num<=1073741824/\1<=x.den/\x.den<=1073741824
 halt:∀x,x∈r.halts->0<=x.fr/\x.fr<=x.dst/\x.dst<=100000
theorem Ko {r:Rlm} {o q:Int} {l:List Int} (h:Wu r o q l=true):0<=o/\o<r.bD.length/\0<=q/\q<22/\l.length=5/\∀x,x∈l->0<=x/\x<r.bD.length:=by
 unfold Wu at h
 split at h
 ·cases h
 rename_i hc
 rw[Bool.not_eq_true]at hc
 simp only[bb]at hc
 refine ⟨by omega,by omega,by omega,by omega,by have:=hc.2;omega,fun x hx=> ?_⟩
 have h2:∀y,y∈l->¬UV y r.bD.length=true:=by simpa using h
 have:=h2 x hx
 unfold UV at this
 rw[Bool.not_eq_true]at this
 simp only[bb]at this
 omega
def Yl (r:Rlm) (order:Int) (ask:Int) (places:List Int) (k1:Nat):Int×Bool:=if k1<((r.bD.getD order.toNat dF).bL).length then if (bif decide (((((r.bD.getD order.toNat dF).bL).getD k1 dF).ask)=ask)then (!decide (((((r.bD.getD order.toNat dF).bL).getD k1 dF).by_)=0))else false)=true then ((places.getD (((((r.bD.getD order.toNat dF).bL).getD k1 dF).by_).toNat) dF),(((r.bD.getD order.toNat dF).bL).getD k1 dF).whole)else Yl r order ask places (k1+1)else (order,false)
termination_by ((r.bD.getD order.toNat dF).bL).length-k1
decreasing_by all_goals first|omega|(simp only[bb]at*;omega)
def Zu (r:Rlm) (order:Int) (ask:Int) (places:List Int):Int×Bool:=if (!(Wu r order ask places))=true then ((-1),false)else Yl r order ask places 0
theorem zRd (r:Rlm) (order:Int) (ask:Int) (places:List Int) (hR:RightR r) (hp:places.length<=9223372036854775807):GC Tryz.prog 213 [rlG r,iG order,iG ask,.d (.row dF inC places)] (.tup [iG ((Zu r order ask places).1),bG ((Zu r order ask places).2)]):=by
 have hr:=hR.fit
 have h1:=hr.bD
 refine zA Tryz.func213 ?_
 refine gE [1,2,3,4,8,9] ?_
 refine gR [.call (zIm r order ask places hr t11)] [1,2,3,4,8,9,17] ?_
 refine zF ?_ ?_<;>intro c1<;>try simp only[bb,toN]at c1
 ·refine gE [1,2,3,4,8,9] ?_
  refine gT ?_
  rw[Zu,iP (by (try simp only[bb,toN]);exact c1)];rfl
 have hf:=Ko c1
 have hl:=(hR.len _ (zK (l:=r.bD) (i:=order.toNat) t11)).1
 refine gE [1,2,3,8,9,23,24,25] ?_
 refine zI (α:=Nat) (fun x=>x<=((r.bD.getD order.toNat dF).bL).length/\Yl r order ask places 0=Yl r order ask places x) (fun x=>[(25,iG x)]) (fun x=>[]) (fun x=>((r.bD.getD order.toNat dF).bL).length-x) 0 ⟨by (try simp only[]);omega,rfl⟩ ?_ (hp:=t40)
 rintro k1 ⟨hi1,he⟩
 refine gE [1,2,3,8,9,23,24,25,26] ?_
 refine zB ?_ ?_<;>intro c2<;>try simp only[toN]at c2
 ·refine gE [1,2,3,8,9,11,23,24,25] ?_
  have hb:=hR.by_ _ (zK (l:=r.bD) (i:=order.toNat) t11) _ (zK (i:=k1) t11)
  refine gE [1,2,3,8,9,11,23,24,25,37] ?_
  refine zF ?_ ?_<;>intro c3<;>try simp only[bb,toN]at c3
  ·refine gE [1,2,3,8,9,23,24,25] ?_
   refine gT ?_
   rw[Zu,iN (by (try simp only[bb,toN]);exact c1),he,Yl,iP t11,iP (by (try simp only[bb,toN]);exact c3)];rfl
  refine gE [1,2,3,8,9,23,24,25] ?_
  refine zD (k1+1) ?_ (hp:=t40)
  refine ⟨by (try simp only[]);omega,he.trans ?_⟩
  rw[Yl,iP t11,iN (by (try simp only[bb,toN]);exact c3)]
  try rfl
 refine gE [8,9] ?_
 refine gT ?_
 rw[Zu,iN (by (try simp only[bb,toN]);exact c1),he,Yl,iQ t11];rfl
def JR (ask:Int):Int×Bool:=if (bif decide (ask<0)then true else decide (22<=ask))=true then (0,false)else if (qv [6,7,10,12,13,14,15,16,20,21] ask)=true then (0,true)else (1,true)
theorem Xq (ask:Int):GC Tryz.prog 175 [iG ask] (.tup [iG ((JR ask).1),bG ((JR ask).2)]):=by
 refine zA Tryz.func175 ?_
 refine gE [0,2,3] ?_
 refine gE [0,2,3,4] ?_
 refine zF ?_ ?_<;>intro c1<;>try simp only[bb,toN]at c1
 ·refine gE [2,3] ?_
  refine gT ?_
  rw[JR,iP (by (try simp only[bb,toN]);exact c1)];rfl
 refine gP [.el dF inC [6,7,10,12,13,14,15,16,20,21],.call ((fun l x h=>zi l h x) [6,7,10,12,13,14,15,16,20,21] ask t17)] [2,3,11] ?_
 refine zF ?_ ?_<;>intro c2<;>try simp only[bb,toN]at c2
 ·refine gE [2,3] ?_
  refine gT ?_
  rw[JR,iN (by (try simp only[bb,toN]);exact c1),iP (by (try simp only[bb,toN]);exact c2)];rfl
 refine gE [2,3] ?_
 refine gT ?_
 rw[JR,iN (by (try simp only[bb,toN]);exact c1),iN (by (try simp only[bb,toN]);exact c2)];rfl
structure Shp where
 args:List Int
 result:Int
deriving DecidableEq
instance :Inhabited Shp:=⟨⟨[],0⟩⟩
abbrev shpG (x:Shp):G:= .agg [.d (.row dF inC x.args),iG x.result]
theorem Yd.len {k:Nat} {t:Tm} (h:Yd k t):t.args.length<=4000000000000:=by
 cases k with
 |zero=>have h:t.args= []:=h;rw[h];simp
 |succ k=>exact h.1
theorem Yd.at_ {k:Nat} {t:Tm} (h:Yd k t) {i:Nat} (hi:i<t.args.length):∃j,k=j+1/\Yd j (t.args.getD i dF):=by
 cases k with
 |zero=>have h:t.args= []:=h;rw[h]at hi;simp at hi
 |succ k=>exact ⟨k,rfl,h.2 _ (zK hi)⟩
def zj (op:Int):Shp:=if op=3 then ⟨[1],1⟩else if op=4 then ⟨[1,1],1⟩else if op=5 then ⟨[1,1],1⟩else if op=6 then ⟨[1,(-1),(-1)],(-1)⟩else if op=7 then ⟨[0,0],1⟩else if op=8 then ⟨[(-1),(-1)],1⟩else ⟨[0,0],0⟩
theorem zDn (op:Int):GC Tryz.prog 271 [iG op] (shpG (zj op)):=by
 refine zA Tryz.func271 ?_
 refine gE [0,2] ?_
 refine gE [2,3] ?_
 refine gE [2,3,4] ?_
 refine zB ?_ ?_<;>intro c1<;>try simp only[toN]at c1
 ·refine gR [.el dF inC [1]] [2] ?_
  refine gT ?_
  rw[zj,iP c1];rfl
 refine gE [2,3,8] ?_
 refine zB ?_ ?_<;>intro c2<;>try simp only[toN]at c2
 ·refine zB ?_ ?_<;>intro c3<;>try simp only[toN]at c3
  ·refine gR [.el dF inC [1,1]] [2] ?_
   refine gT ?_
   rw[zj,iQ c1,iP c2];rfl
  exact absurd c2 c3
 refine gE [2,3,8] ?_
 refine zB ?_ ?_<;>intro c4<;>try simp only[toN]at c4
 ·refine gR [.el dF inC [1,1]] [2] ?_
  refine gT ?_
  rw[zj,iQ c1,iQ c2,iP c4];rfl
 refine gE [2,3,13] ?_
 refine zB ?_ ?_<;>intro c5<;>try simp only[toN]at c5
 ·refine gR [.el dF inC [1,(-1),(-1)]] [2] ?_
  refine gT ?_
  rw[zj,iQ c1,iQ c2,iQ c4,iP c5];rfl
 refine gE [2,3,17] ?_
 refine zB ?_ ?_<;>intro c6<;>try simp only[toN]at c6
 ·refine gR [.el dF inC [0,0]] [2] ?_
  refine gT ?_
  rw[zj,iQ c1,iQ c2,iQ c4,iQ c5,iP c6];rfl
 refine gE [2,21] ?_
 refine zB ?_ ?_<;>intro c7<;>try simp only[toN]at c7
 ·refine gR [.el dF inC [(-1),(-1)]] [2] ?_
  refine gT ?_
  rw[zj,iQ c1,iQ c2,iQ c4,iQ c5,iQ c6,iP c7];rfl
 refine gR [.el dF inC [0,0]] [2] ?_
 refine gT ?_
 rw[zj,iQ c1,iQ c2,iQ c4,iQ c5,iQ c6,iQ c7];rfl
def Yk (t:Tm):Int×Int:=if 0<(t.args.length:Int)then (0,2)else if t.op=0 then if (zNe t.n)=t.n then (0,0)else (0,3)else if t.op=1 then if (bif decide (t.n<0)then true else decide (1<t.n))=true then (0,3)else (1,0)else if (!(VE t.n).2)=true then (0,10)else ((VE t.n).1,0)
theorem zXn (t:Tm) (k:Nat) (ht:Yd k t):GC Tryz.prog 270 [Qu k t] (.tup [iG ((Yk t).1),iG ((Yk t).2)]):=by
 have hl:=ht.len
 refine zA Tryz.func270 ?_
 refine gE [1,2,3] ?_
 refine gE [1,2,3,9] ?_
 refine zB ?_ ?_<;>intro c1<;>try simp only[toN]at c1
 ·refine gE [1,2,3] ?_
  refine gT ?_
  rw[Yk,iP c1];rfl
 refine gE [1,2,3,11] ?_
 refine gE [1,2,3,11,12] ?_
 refine zB ?_ ?_<;>intro c2<;>try simp only[toN]at c2
 ·refine gR [.call (Kr t.n)] [1,2,3,19] ?_
  refine zQ ?_ ?_<;>intro c3<;>try simp only[toN]at c3
  ·refine gE [1,2,3] ?_
   refine gT ?_
   rw[Yk,iQ c1,iP c2,iQ c3];rfl
  refine gE [1,2,3] ?_
  refine gT ?_
  rw[Yk,iQ c1,iP c2,iP c3];rfl
 refine gE [1,2,3,20] ?_
 refine zB ?_ ?_<;>intro c4<;>try simp only[toN]at c4
 ·refine gE [1,2,3,29] ?_
  refine zF ?_ ?_<;>intro c5<;>try simp only[bb,toN]at c5
  ·refine gE [1,2,3] ?_
   refine gT ?_
   rw[Yk,iQ c1,iQ c2,iP c4,iP (by (try simp only[bb,toN]);exact c5)];rfl
  refine gE [1,2,3] ?_
  refine gT ?_
  rw[Yk,iQ c1,iQ c2,iP c4,iN (by (try simp only[bb,toN]);exact c5)];rfl
 refine gR [.call (zGz t.n)] [2,3,4,5] ?_
 refine gE [2,3,4,37] ?_
 refine zF ?_ ?_<;>intro c6<;>try simp only[bb,toN]at c6
 ·refine gE [2,3,4] ?_
  refine gT ?_
  rw[Yk,iQ c1,iQ c2,iQ c4,iP (by (try simp only[bb,toN]);exact c6)];rfl
 refine gE [2,3] ?_
 refine gT ?_
 rw[Yk,iQ c1,iQ c2,iQ c4,iN (by (try simp only[bb,toN]);exact c6)];rfl
def js (f:Tm->Int->Int) (t:Tm) (lv:Int) (a5_1:Int):Int:=a5_1
def Yj (f:Tm->Int->Int) (t:Tm) (lv:Int) (a5_1:Int) (k1:Nat):Int:=if k1<t.args.length then if 60<(i64.wrap (a5_1+(f (t.args.getD k1 dF) (i64.wrap (lv+1)))))then js f t lv (i64.wrap (a5_1+(f (t.args.getD k1 dF) (i64.wrap (lv+1)))))else Yj f t lv (i64.wrap (a5_1+(f (t.args.getD k1 dF) (i64.wrap (lv+1))))) (k1+1)else js f t lv a5_1
termination_by t.args.length-k1
def Jd (f:Tm->Int->Int) (t:Tm) (lv:Int):Int:=if 8<lv then 61 else Yj f t lv 1 0
theorem Hy (f:Tm->Int->Int) (t:Tm) (lv:Int) (k:Nat) (hf:∀j,k=j+1->∀a lv,Yd j a->GC Tryz.prog 244 [Qu j a,iG lv] (iG (f a lv))) (ht:Yd k t):GC Tryz.prog 244 [Qu k t,iG lv] (iG (Jd f t lv)):=by
 have hl:=ht.len
 refine zA Tryz.func244 ?_
 refine gE [1,2,4] ?_
 refine gE [1,2,4,9] ?_
 refine zB ?_ ?_<;>intro c1<;>try simp only[toN]at c1
 ·refine gE [1,2,4] ?_
  refine gT ?_
  rw[Jd,iP c1];rfl
 refine gE [1,2,4,5] ?_
 refine gE [1,4,5,11,12,13] ?_
 refine uZ (α:=Int) (fun x=>Jd f t lv=js f t lv x) (fun x=>⟨[(4,iG 0),(5,iG x)],[(0,some (.box [iG t.op,iG t.n,.d (.row dF (tmC k) t.args)]))],1⟩) ?_ ?_
 ·rintro a5_1 hj1
  refine gE [4] ?_
  refine gT ?_
  rw[hj1,js];rfl
 refine zI (α:=Int×Nat) (fun x=>x.2<=t.args.length/\Yj f t lv 1 0=Yj f t lv x.1 x.2) (fun x=>[(5,iG x.1),(13,iG x.2)]) (fun x=>[]) (fun x=>t.args.length-x.2) (1,0) ⟨by (try simp only[]);omega,rfl⟩ ?_ (hp:=t40)
 rintro ⟨a5_1,k1⟩ ⟨hi1,he⟩
 dsimp only at*
 refine gE [1,4,5,11,12,13,14] ?_
 refine zB ?_ ?_<;>intro c2<;>try simp only[toN]at c2
 ·obtain ⟨j,rfl,hfa⟩:=ht.at_ (i:=k1) t11
  refine gE [1,4,5,7,11,12,13] ?_
  refine zG env true [.call (hf _ rfl (t.args.getD k1 dF) (i64.wrap (lv+1)) hfa)] [1,4,5,11,12,13] ?_
  refine gE [1,4,5,11,12,13,24] ?_
  refine zB ?_ ?_<;>intro c3<;>try simp only[toN]at c3
  ·refine zV (i64.wrap (a5_1+(f (t.args.getD k1 dF) (i64.wrap (lv+1))))) ?_ (hp:=t40)
   exact by rw[Jd,iQ c1,he,Yj,iP t11,iP c3]
  refine gE [1,4,5,11,12,13] ?_
  refine zD ((i64.wrap (a5_1+(f (t.args.getD k1 dF) (i64.wrap (lv+1)))),k1+1)) ?_ (hp:=t40) (hm:=by dsimp only;omega)
  refine ⟨by (try simp only[]);omega,he.trans ?_⟩
  rw[Yj,iP t11,iQ c3]
  try rfl
 refine zV (a5_1) ?_ (hp:=t40)
 exact by rw[Jd,iQ c1,he,Yj,iQ t11]
def Qj:Nat->Tm->Int->Int
 |0=>Jd fun _ _=>0
 |k+1=>Jd (Qj k)
theorem zEp:∀(k:Nat) (t:Tm) (lv:Int),Yd k t->GC Tryz.prog 244 [Qu k t,iG lv] (iG (Qj k t lv)):=by
 intro k
 induction k with
 |zero=>intro t lv h;exact Hy _ t lv 0 (fun j e=>by omega) h
 |succ k ih=>intro t lv h;exact Hy (Qj k) t lv (k+1) (fun j e=>by cases e;exact ih) h
def ZH (f:Tm->Int×Int) (t:Tm) (a4_1:List Int) (k1:Nat) (a10_2:Int) (k2:Nat):Int×Int:=if k2<((zj t.op).args).length then if (bif decide ((((zj t.op).args).getD k2 dF)=(-1))then decide (a10_2=(-1))else false)=true then if (((zj t.op).args).getD k2 dF)=(-1)then if (a4_1.getD k2 dF)=(a4_1.getD k2 dF)then ZH f t a4_1 k1 (a4_1.getD k2 dF) (k2+1)else (0,11)else if (a4_1.getD k2 dF)=(((zj t.op).args).getD k2 dF)then ZH f t a4_1 k1 (a4_1.getD k2 dF) (k2+1)else (0,11)else if (((zj t.op).args).getD k2 dF)=(-1)then if (a4_1.getD k2 dF)=a10_2 then ZH f t a4_1 k1 a10_2 (k2+1)else (0,11)else if (a4_1.getD k2 dF)=(((zj t.op).args).getD k2 dF)then ZH f t a4_1 k1 a10_2 (k2+1)else (0,11)else if ((zj t.op).result)=(-1)then (a10_2,0)else ((zj t.op).result,0)
termination_by ((zj t.op).args).length-k2
def yy (f:Tm->Int×Int) (t:Tm) (a4_1:List Int) (k1:Nat):Int×Int:=if k1<t.args.length then if ((f (t.args.getD k1 dF)).2)=0 then yy f t (a4_1.set k1 ((f (t.args.getD k1 dF)).1)) (k1+1)else (0,(f (t.args.getD k1 dF)).2)else if (bif decide (t.op<0)then true else decide (13<t.op))=true then (0,1)else if (bif (bif decide (t.op=0)then true else decide (t.op=1))then true else decide (t.op=2))=true then ((Yk t).1,(Yk t).2)else if (bif (!decide ((a4_1.length:Int)=(((zj t.op).args).length:Int)))then true else (!decide (t.n=0)))=true then (0,2)else ZH f t a4_1 k1 (-1) 0
termination_by t.args.length-k1
def yk (f:Tm->Int×Int) (t:Tm):Int×Int:=yy f t (List.replicate t.args.length 0) 0
theorem zIu (f:Tm->Int×Int) (t:Tm) (k:Nat) (hf:∀j,k=j+1->∀a,Yd j a->GC Tryz.prog 245 [Qu j a] (.tup [iG (f a).1,iG (f a).2])) (ht:Yd k t):GC Tryz.prog 245 [Qu k t] (.tup [iG ((yk f t).1),iG ((yk f t).2)]):=by
 have hl:=ht.len
 refine zA Tryz.func245 ?_
 refine gE [1,2,3] ?_
 refine gR [.el dF inC (List.replicate t.args.length 0)] [1,2,3,4] ?_ (hp:=t33)
 refine gE [1,2,3,4,18,19,20] ?_
 refine zI (α:=List Int×Nat) (fun x=>x.2<=t.args.length/\yy f t (List.replicate t.args.length 0) 0=yy f t x.1 x.2/\x.1.length=t.args.length) (fun x=>[(4,.sl 1 1 0 x.1.length),(20,iG x.2)]) (fun x=>[(1,some (.row 3 1 dF inC x.1 0))]) (fun x=>t.args.length-x.2) (List.replicate t.args.length 0,0) ⟨by (try simp only[]);omega,rfl,by first|omega|(simp;done)|(simp only[List.length_append,List.length_cons,List.length_nil,List.length_set,List.length_replicate];omega)⟩ ?_ (hp:=t40)
 rintro ⟨a4_1,k1⟩ ⟨hi1,he,hl_a4_1⟩
 dsimp only at*
 refine gE [1,2,3,4,18,19,20,21] ?_
 refine zB ?_ ?_<;>intro c1<;>try simp only[toN]at c1
 ·obtain ⟨j,rfl,hfa⟩:=ht.at_ (i:=k1) t11
  refine gE [1,2,3,4,5,6,18,19,20] ?_
  refine gR [.call (hf _ rfl (t.args.getD k1 dF) hfa)] [1,2,3,4,5,7,8,18,19,20] ?_
  refine gE [1,2,3,4,5,7,8,18,19,20,31] ?_
  refine zQ ?_ ?_<;>intro c2<;>try simp only[toN]at c2
  ·refine gE [1,2,3,4,5,7,18,19,20] ?_
   refine gT ?_
   rw[yk,he,yy,iP t11,iQ c2];rfl
  refine gR [.el dF inC (a4_1.set k1 ((f (t.args.getD k1 dF)).1))] [1,2,3,4,18,19,20] ?_ (hp:=(by simp only[zC,bb,toN,loI,hiI,Nat.zero_add];repeat' first|exact (ZV (cs:=inC) t26 rfl t25).symm|exact Nat.le_refl _|exact trivial|exact zH.refl _|exact zE.refl _|exact rfl|omega|apply And.intro|intro _|(simp;done)))
  refine gE [1,2,3,4,18,19,20] ?_
  refine zD ((a4_1.set k1 ((f (t.args.getD k1 dF)).1),k1+1)) ?_ (hp:=t40) (hm:=by dsimp only;omega)
  refine ⟨by (try simp only[]);omega,he.trans ?_,by first|omega|(simp;done)|(simp only[List.length_append,List.length_cons,List.length_nil,List.length_set,List.length_replicate];omega)⟩
  rw[yy,iP t11,iP c2]
  try rfl
 refine gE [1,2,3,4,38] ?_
 refine zF ?_ ?_<;>intro c3<;>try simp only[bb,toN]at c3
 ·refine gE [1,2,3,4] ?_
  refine gT ?_
  rw[yk,he,yy,iQ t11,iP (by (try simp only[bb,toN]);exact c3)];rfl
 refine gE [1,2,3,4,47] ?_
 refine zF ?_ ?_<;>intro c4<;>try simp only[bb,toN]at c4
 ·refine gR [.call (zXn t k t12)] [1,2,3,4] ?_
  refine gT ?_
  rw[yk,he,yy,iQ t11,iN (by (try simp only[bb,toN]);exact c3),iP (by (try simp only[bb,toN]);exact c4)];rfl
 refine gR [.call (zDn t.op)] [1,2,3,4,9] ?_
 refine gE [2,3,4,9,78] ?_
 refine zF ?_ ?_<;>intro c5<;>try simp only[bb,toN]at c5
 ·refine gE [2,3,4,9] ?_
  refine gT ?_
  rw[yk,he,yy,iQ t11,iN (by (try simp only[bb,toN]);exact c3),iN (by (try simp only[bb,toN]);exact c4),iP (by (try simp only[bb,toN]);exact c5)];rfl
 refine gE [2,3,4,9,10] ?_
 refine gE [2,3,4,9,10,80,81,82] ?_
 refine zI (α:=Int×Nat) (fun x=>x.2<=((zj t.op).args).length/\ZH f t a4_1 k1 (-1) 0=ZH f t a4_1 k1 x.1 x.2) (fun x=>[(10,iG x.1),(82,iG x.2)]) (fun x=>[]) (fun x=>((zj t.op).args).length-x.2) ((-1),0) ⟨by (try simp only[]);omega,rfl⟩ ?_ (hp:=t40)
 rintro ⟨a10_2,k2⟩ ⟨hi2,he2⟩
 dsimp only at*
 refine gE [2,3,4,9,10,80,81,82,83] ?_
 refine zB ?_ ?_<;>intro c6<;>try simp only[toN]at c6
 ·refine gE [2,3,4,9,10,11,12,80,81,82] ?_
  refine gE [2,3,4,9,10,11,12,80,81,82,92] ?_
  refine zF ?_ ?_<;>intro c7<;>try simp only[bb,toN]at c7
  ·refine gE [2,3,4,9,10,11,12,80,81,82] ?_ (hp:=t15)
   refine gE [2,3,4,9,10,11,12,80,81,82,98] ?_
   refine zB ?_ ?_<;>intro c8<;>try simp only[toN]at c8
   ·refine gE [2,3,4,9,10,11,12,80,81,82] ?_
    refine gE [2,3,4,9,10,80,81,82,105] ?_ (hp:=t15)
    refine zQ ?_ ?_<;>intro c9<;>try simp only[toN]at c9
    ·refine gE [2,3,4,9,10,80,81,82] ?_
     refine gT ?_
     rw[yk,he,yy,iQ t11,iN (by (try simp only[bb,toN]);exact c3),iN (by (try simp only[bb,toN]);exact c4),iN (by (try simp only[bb,toN]);exact c5),he2,ZH,iP t11,iP (by (try simp only[bb,toN]);exact c7),iP c8,iQ (show ¬((a4_1.getD k2 dF)=(a4_1.getD k2 dF))from absurd trivial c9)];rfl
    refine gE [2,3,4,9,10,80,81,82] ?_
    refine zD (((a4_1.getD k2 dF),k2+1)) ?_ (hp:=t40) (hm:=by dsimp only;omega)
    refine ⟨by (try simp only[]);omega,he2.trans ?_⟩
    rw[ZH,iP t11,iP (by (try simp only[bb,toN]);exact c7),iP c8,iP (show (a4_1.getD k2 dF)=(a4_1.getD k2 dF)from rfl)]
    try rfl
   refine gE [2,3,4,9,10,80,81,82,105] ?_ (hp:=t15)
   refine zQ ?_ ?_<;>intro c10<;>try simp only[toN]at c10
   ·refine gE [2,3,4,9,10,80,81,82] ?_
    refine gT ?_
    rw[yk,he,yy,iQ t11,iN (by (try simp only[bb,toN]);exact c3),iN (by (try simp only[bb,toN]);exact c4),iN (by (try simp only[bb,toN]);exact c5),he2,ZH,iP t11,iP (by (try simp only[bb,toN]);exact c7),iQ c8,iQ c10];rfl
   refine gE [2,3,4,9,10,80,81,82] ?_
   refine zD (((a4_1.getD k2 dF),k2+1)) ?_ (hp:=t40) (hm:=by dsimp only;omega)
   refine ⟨by (try simp only[]);omega,he2.trans ?_⟩
   rw[ZH,iP t11,iP (by (try simp only[bb,toN]);exact c7),iQ c8,iP c10]
   try rfl
  refine gE [2,3,4,9,10,11,12,80,81,82,98] ?_
  refine zB ?_ ?_<;>intro c11<;>try simp only[toN]at c11
  ·refine gE [2,3,4,9,10,11,12,80,81,82] ?_
   refine gE [2,3,4,9,10,80,81,82,105] ?_ (hp:=t15)
   refine zQ ?_ ?_<;>intro c12<;>try simp only[toN]at c12
   ·refine gE [2,3,4,9,10,80,81,82] ?_
    refine gT ?_
    rw[yk,he,yy,iQ t11,iN (by (try simp only[bb,toN]);exact c3),iN (by (try simp only[bb,toN]);exact c4),iN (by (try simp only[bb,toN]);exact c5),he2,ZH,iP t11,iN (by (try simp only[bb,toN]);exact c7),iP c11,iQ c12];rfl
   refine gE [2,3,4,9,10,80,81,82] ?_
   refine zD ((a10_2,k2+1)) ?_ (hp:=t40) (hm:=by dsimp only;omega)
   refine ⟨by (try simp only[]);omega,he2.trans ?_⟩
   rw[ZH,iP t11,iN (by (try simp only[bb,toN]);exact c7),iP c11,iP c12]
   try rfl
  refine gE [2,3,4,9,10,80,81,82,105] ?_ (hp:=t15)
  refine zQ ?_ ?_<;>intro c13<;>try simp only[toN]at c13
  ·refine gE [2,3,4,9,10,80,81,82] ?_
   refine gT ?_
   rw[yk,he,yy,iQ t11,iN (by (try simp only[bb,toN]);exact c3),iN (by (try simp only[bb,toN]);exact c4),iN (by (try simp only[bb,toN]);exact c5),he2,ZH,iP t11,iN (by (try simp only[bb,toN]);exact c7),iQ c11,iQ c13];rfl
  refine gE [2,3,4,9,10,80,81,82] ?_
  refine zD ((a10_2,k2+1)) ?_ (hp:=t40) (hm:=by dsimp only;omega)
  refine ⟨by (try simp only[]);omega,he2.trans ?_⟩
  rw[ZH,iP t11,iN (by (try simp only[bb,toN]);exact c7),iQ c11,iP c13]
  try rfl
 refine gE [2,3,9,10,109] ?_
 refine zB ?_ ?_<;>intro c14<;>try simp only[toN]at c14
 ·refine gE [2,3,9] ?_
  refine gT ?_
  rw[yk,he,yy,iQ t11,iN (by (try simp only[bb,toN]);exact c3),iN (by (try simp only[bb,toN]);exact c4),iN (by (try simp only[bb,toN]);exact c5),he2,ZH,iQ t11,iP c14];rfl
 refine gE [2,3] ?_
 refine gT ?_
 rw[yk,he,yy,iQ t11,iN (by (try simp only[bb,toN]);exact c3),iN (by (try simp only[bb,toN]);exact c4),iN (by (try simp only[bb,toN]);exact c5),he2,ZH,iQ t11,iQ c14];rfl
structure Mch where
 cells:List Cel
deriving DecidableEq
instance :Inhabited Mch:=⟨⟨[]⟩⟩
abbrev mcG (x:Mch):G:= .agg [.d (.row dF ceC x.cells)]
def wL (a b:Cel):Bool:=(a.known==b.known)&&(decide (a.n=b.n)&&(true))
theorem Wz (a b:Cel):EqC Tryz.prog 74 [.bool a.known,.int .i64 a.n] [.bool b.known,.int .i64 b.n] (wL a b):=EqC.of yA rfl rfl (by kernel_rfl) (by kernel_rfl) (.bool yA rfl rfl rfl rfl (.int yA rfl rfl rfl rfl .nil))
def YO (x:Int) (y:Int):Int×Int:=(IntKind.u64.wrap ((IntKind.u64.wrap ((IntKind.u64.wrap ((Vp .u64 x 32)*(Vp .u64 y 32)))+(Vp .u64 (IntKind.u64.wrap ((IntKind.u64.wrap ((Vp .u64 x 32)*(yz .u64 y 4294967295)))+(Vp .u64 (IntKind.u64.wrap ((yz .u64 x 4294967295)*(yz .u64 y 4294967295))) 32))) 32)))+(Vp .u64 (IntKind.u64.wrap ((yz .u64 (IntKind.u64.wrap ((IntKind.u64.wrap ((Vp .u64 x 32)*(yz .u64 y 4294967295)))+(Vp .u64 (IntKind.u64.wrap ((yz .u64 x 4294967295)*(yz .u64 y 4294967295))) 32))) 4294967295)+(IntKind.u64.wrap ((yz .u64 x 4294967295)*(Vp .u64 y 32))))) 32)),IntKind.u64.wrap (x*y))
theorem zQh (x:Int) (y:Int):GC Tryz.prog 231 [.d (.sc (.int .u64 x)),.d (.sc (.int .u64 y))] (.tup [.d (.sc (.int .u64 ((YO x y).1))),.d (.sc (.int .u64 ((YO x y).2)))]):=by
 refine zA Tryz.func231 ?_
 refine gE [0,1,4,5] ?_
 refine gE [0,1,4,5,6] ?_
 refine gE [0,1,4,5,6,7] ?_
 refine gE [0,1,4,5,6,7,8] ?_
 refine gE [0,1,4,5,6,7,8,9] ?_
 refine zG env true [] [0,1,4,5,6,7,8,9,10] ?_
 refine zG env true [] [0,1,4,5,6,7,9,11] ?_
 refine gE [0,1,4,5,6,7,9,11,12] ?_
 refine gE [0,1,4,5,6,7,9,12,13] ?_
 refine zG env true [] [0,1,4,5,7,9,12,13] ?_
 refine zG env true [] [0,1,4,5] ?_
 refine zG env true [] [4,5] ?_
 refine gT ?_
 rw[YO];rfl
def XB (a:Int) (b:Int):Int:=if (bif decide (((YO (IntKind.u64.wrap (mxI a (i64.wrap (0-a)))) (IntKind.u64.wrap (mxI b (i64.wrap (0-b))))).1)=0)then decide (((YO (IntKind.u64.wrap (mxI a (i64.wrap (0-a)))) (IntKind.u64.wrap (mxI b (i64.wrap (0-b))))).2)<1099511627776)else false)=true then if (!(decide (a<0)==decide (b<0)))=true then i64.wrap (0-(i64.wrap ((YO (IntKind.u64.wrap (mxI a (i64.wrap (0-a)))) (IntKind.u64.wrap (mxI b (i64.wrap (0-b))))).2)))else i64.wrap ((YO (IntKind.u64.wrap (mxI a (i64.wrap (0-a)))) (IntKind.u64.wrap (mxI b (i64.wrap (0-b))))).2)else if (!(decide (a<0)==decide (b<0)))=true then i64.wrap (0-1099511627776)else 1099511627776
theorem zWd (a:Int) (b:Int):GC Tryz.prog 283 [iG a,iG b] (iG (XB a b)):=by
 refine zA Tryz.func283 ?_
 refine gE [0,1,4] ?_
 refine zG env true [.call (zQh (IntKind.u64.wrap (mxI a (i64.wrap (0-a)))) (IntKind.u64.wrap (mxI b (i64.wrap (0-b)))))] [0,1,4,5,6] ?_
 refine gE [0,1,4,5,6,7] ?_
 refine gE [0,1,4,6,7,27] ?_
 refine zF ?_ ?_<;>intro c1<;>try simp only[bb,toN]at c1
 ·refine zG env true [] [0,1,4,7] ?_
  refine gE [4,7,34] ?_
  refine zF ?_ ?_<;>intro c2<;>try simp only[bb,toN]at c2
  ·refine zG env true [] [4,7] ?_
   refine gT ?_
   rw[XB,iP (show (bif decide (((YO (IntKind.u64.wrap (mxI a (i64.wrap (0-a)))) (IntKind.u64.wrap (mxI b (i64.wrap (0-b))))).1)=0)then decide (((YO (IntKind.u64.wrap (mxI a (i64.wrap (0-a)))) (IntKind.u64.wrap (mxI b (i64.wrap (0-b))))).2)<1099511627776)else false)=true by (try simp only[bb,toN]);exact c1),iP (show (!(decide (a<0)==decide (b<0)))=true by (try simp only[bb,toN]);exact c2)];rfl
  refine gE [4] ?_
  refine gT ?_
  rw[XB,iP (show (bif decide (((YO (IntKind.u64.wrap (mxI a (i64.wrap (0-a)))) (IntKind.u64.wrap (mxI b (i64.wrap (0-b))))).1)=0)then decide (((YO (IntKind.u64.wrap (mxI a (i64.wrap (0-a)))) (IntKind.u64.wrap (mxI b (i64.wrap (0-b))))).2)<1099511627776)else false)=true by (try simp only[bb,toN]);exact c1),iQ (show ¬((!(decide (a<0)==decide (b<0)))=true)by rw[Bool.not_eq_true];(try simp only[bb,toN]);exact c2)];rfl
 refine gE [4,7,34] ?_
 refine zF ?_ ?_<;>intro c3<;>try simp only[bb,toN]at c3
 ·refine zG env true [] [4,7] ?_
  refine gT ?_
  rw[XB,iQ (show ¬((bif decide (((YO (IntKind.u64.wrap (mxI a (i64.wrap (0-a)))) (IntKind.u64.wrap (mxI b (i64.wrap (0-b))))).1)=0)then decide (((YO (IntKind.u64.wrap (mxI a (i64.wrap (0-a)))) (IntKind.u64.wrap (mxI b (i64.wrap (0-b))))).2)<1099511627776)else false)=true)by rw[Bool.not_eq_true];(try simp only[bb,toN]);exact c1),iP (show (!(decide (a<0)==decide (b<0)))=true by (try simp only[bb,toN]);exact c3)];rfl
 refine gE [4] ?_
 refine gT ?_
 rw[XB,iQ (show ¬((bif decide (((YO (IntKind.u64.wrap (mxI a (i64.wrap (0-a)))) (IntKind.u64.wrap (mxI b (i64.wrap (0-b))))).1)=0)then decide (((YO (IntKind.u64.wrap (mxI a (i64.wrap (0-a)))) (IntKind.u64.wrap (mxI b (i64.wrap (0-b))))).2)<1099511627776)else false)=true)by rw[Bool.not_eq_true];(try simp only[bb,toN]);exact c1),iQ (show ¬((!(decide (a<0)==decide (b<0)))=true)by rw[Bool.not_eq_true];(try simp only[bb,toN]);exact c3)];rfl
def JA (op:Int) (a:Int) (b:Int):Int:=if op=9 then (zNe (i64.wrap (a+b)))else if op=10 then (zNe (i64.wrap (a-b)))else if op=11 then (XB a b)else if op=12 then mnI a b else mxI a b
theorem UH (op:Int) (a:Int) (b:Int):GC Tryz.prog 275 [iG op,iG a,iG b] (iG (JA op a b)):=by
 refine zA Tryz.func275 ?_
 refine gE [0,1,2,6] ?_
 refine gE [1,2,6,7] ?_
 refine gE [1,2,6,7,8] ?_
 refine zB ?_ ?_<;>intro c1<;>try simp only[toN]at c1
 ·refine zG env true [.call (Kr (i64.wrap (a+b)))] [1,2,6] ?_
  refine gT ?_
  rw[JA,iP c1];rfl
 refine gE [1,2,6,7,14] ?_
 refine zB ?_ ?_<;>intro c2<;>try simp only[toN]at c2
 ·refine zG env true [.call (Kr (i64.wrap (a-b)))] [1,2,6] ?_
  refine gT ?_
  rw[JA,iQ c1,iP c2];rfl
 refine gE [1,2,6,7,20] ?_
 refine zB ?_ ?_<;>intro c3<;>try simp only[toN]at c3
 ·refine gR [.call (zWd a b)] [1,2,6] ?_
  refine gT ?_
  rw[JA,iQ c1,iQ c2,iP c3];rfl
 refine gE [1,2,6,25] ?_
 refine zB ?_ ?_<;>intro c4<;>try simp only[toN]at c4
 ·refine gE [1,2,6] ?_
  refine gT ?_
  rw[JA,iQ c1,iQ c2,iQ c3,iP c4];rfl
 refine gE [6] ?_
 refine gT ?_
 rw[JA,iQ c1,iQ c2,iQ c3,iQ c4];rfl
def HG (m:Mch) (v:Int):Cel:=if (bif decide ((m.cells.length:Int)<=v)then true else (!(m.cells.getD v.toNat dF).known))=true then ⟨false,0⟩else if ((VE v).1)=1 then (qm (!decide (((m.cells.getD v.toNat dF).n)=0)))else ⟨true,(zNe ((m.cells.getD v.toNat dF).n))⟩
theorem ZAv (m:Mch) (v:Int) (hv:0<=v) (hl:m.cells.length<=9223372036854775807):GC Tryz.prog 246 [mcG m,iG v] (ceG (HG m v)):=by
 refine zA Tryz.func246 ?_
 refine gE [1,2,4] ?_
 refine gE [1,2,4,20] ?_
 refine zF ?_ ?_<;>intro c1<;>try simp only[bb,toN]at c1
 ·refine gE [1,2,4] ?_
  refine gT ?_
  rw[HG,iP (by (try simp only[bb,toN]);exact c1)];rfl
 refine gR [.call (zGz v)] [1,2,4,5] ?_
 refine gE [1,2,4,28] ?_
 refine zB ?_ ?_<;>intro c2<;>try simp only[toN]at c2
 ·refine gR [.call (qb (!decide (((m.cells.getD v.toNat dF).n)=0)))] [1,2,4] ?_
  refine gT ?_
  rw[HG,iN (by (try simp only[bb,toN]);exact c1),iP c2];rfl
 refine gR [.call (Kr ((m.cells.getD v.toNat dF).n))] [4] ?_
 refine gT ?_
 rw[HG,iN (by (try simp only[bb,toN]);exact c1),iQ c2];rfl
def yU (op:Int) (l:List Cel):Cel:=if op=3 then if (l.getD 0 dF).known=true then (qm (decide (((l.getD 0 dF).n)=0)))else ⟨false,0⟩else if op=4 then if (bif (wL (l.getD 0 dF) (qm (decide (op=5))))then true else (wL (l.getD 1 dF) (qm (decide (op=5)))))=true then (qm (decide (op=5)))else if (bif (!(l.getD 0 dF).known)then true else (!(l.getD 1 dF).known))=true then ⟨false,0⟩else (qm (decide (op=4)))else if op=5 then if (bif (wL (l.getD 0 dF) (qm (decide (op=5))))then true else (wL (l.getD 1 dF) (qm (decide (op=5)))))=true then (qm (decide (op=5)))else if (bif (!(l.getD 0 dF).known)then true else (!(l.getD 1 dF).known))=true then ⟨false,0⟩else if op=4 then if op=7 then (qm (decide (((l.getD 0 dF).n)<((l.getD 1 dF).n))))else if op=8 then (qm (decide (((l.getD 0 dF).n)=((l.getD 1 dF).n))))else ⟨true,(JA op ((l.getD 0 dF).n) ((l.getD 1 dF).n))⟩else (qm (decide (op=4)))else if op=6 then if (bif (l.getD 1 dF).known then (wL (l.getD 1 dF) (l.getD 2 dF))else false)=true then (l.getD 1 dF)else ⟨false,0⟩else if (bif (!(l.getD 0 dF).known)then true else (!(l.getD 1 dF).known))=true then ⟨false,0⟩else if op=4 then if op=7 then (qm (decide (((l.getD 0 dF).n)<((l.getD 1 dF).n))))else if op=8 then (qm (decide (((l.getD 0 dF).n)=((l.getD 1 dF).n))))else ⟨true,(JA op ((l.getD 0 dF).n) ((l.getD 1 dF).n))⟩else if op=7 then (qm (decide (((l.getD 0 dF).n)<((l.getD 1 dF).n))))else if op=8 then (qm (decide (((l.getD 0 dF).n)=((l.getD 1 dF).n))))else ⟨true,(JA op ((l.getD 0 dF).n) ((l.getD 1 dF).n))⟩
theorem zZd (op:Int) (l:List Cel) (h1:1<=l.length) (h2:op≠3->2<=l.length) (h3:op=6->3<=l.length):GC Tryz.prog 247 [iG op,.d (.row dF ceC l)] (ceG (yU op l)):=by
 refine zA Tryz.func247 ?_
 refine gE [0,1,4] ?_
 refine gE [0,1,4,8] ?_
 refine gE [0,1,4,8,9] ?_
 refine zB ?_ ?_<;>intro c1<;>try simp only[toN]at c1
 ·refine gE [0,1,4,14] ?_
  refine zF ?_ ?_<;>intro c2<;>try simp only[bb,toN]at c2
  ·refine gR [.call (qb (decide (((l.getD 0 dF).n)=0)))] [0,1,4] ?_
   refine gT ?_
   rw[yU,iP c1,iP (by (try simp only[bb,toN]);exact c2)];rfl
  refine gE [0,1,4] ?_
  refine gT ?_
  rw[yU,iP c1,iN (by (try simp only[bb,toN]);exact c2)];rfl
 refine gE [0,1,4,8,22] ?_
 refine zB ?_ ?_<;>intro c3<;>try simp only[toN]at c3
 ·refine zB ?_ ?_<;>intro c4<;>try simp only[toN]at c4
  ·refine gR [.call (qb (decide (op=5)))] [0,1,4,5] ?_
   refine gR [.eq (Wz (l.getD 0 dF) (qm (decide (op=5)))),.eq (Wz (l.getD 1 dF) (qm (decide (op=5))))] [0,1,4,5,39] ?_
   refine zF ?_ ?_<;>intro c5<;>try simp only[bb,toN]at c5
   ·refine gE [0,1,4] ?_
    refine gT ?_
    rw[yU,iQ c1,iP c3,iP (by (try simp only[bb,toN]);exact c5)];rfl
   refine gE [0,1,4,71] ?_
   refine zF ?_ ?_<;>intro c6<;>try simp only[bb,toN]at c6
   ·refine gE [0,1,4] ?_
    refine gT ?_
    rw[yU,iQ c1,iP c3,iN (by (try simp only[bb,toN]);exact c5),iP (by (try simp only[bb,toN]);exact c6)];rfl
   refine gE [0,4,6,7] ?_
   refine gE [0,4,6,7,81] ?_
   refine gE [0,4,6,7,81,82] ?_
   refine zB ?_ ?_<;>intro c7<;>try simp only[toN]at c7
   ·refine zB ?_ ?_<;>intro c8<;>try simp only[toN]at c8
    ·refine gR [.call (qb (decide (op=4)))] [0,4,6,7] ?_
     refine gT ?_
     rw[yU,iQ c1,iP c3,iN (by (try simp only[bb,toN]);exact c5),iN (by (try simp only[bb,toN]);exact c6)];rfl
    exact absurd c3 c8
   exact absurd c3 c7
  exact absurd c3 c4
 refine gE [0,1,4,8,22] ?_
 refine zB ?_ ?_<;>intro c9<;>try simp only[toN]at c9
 ·refine gR [.call (qb (decide (op=5)))] [0,1,4,5] ?_
  refine gR [.eq (Wz (l.getD 0 dF) (qm (decide (op=5)))),.eq (Wz (l.getD 1 dF) (qm (decide (op=5))))] [0,1,4,5,39] ?_
  refine zF ?_ ?_<;>intro c10<;>try simp only[bb,toN]at c10
  ·refine gE [0,1,4] ?_
   refine gT ?_
   rw[yU,iQ c1,iQ c3,iP c9,iP (by (try simp only[bb,toN]);exact c10)];rfl
  refine gE [0,1,4,71] ?_
  refine zF ?_ ?_<;>intro c11<;>try simp only[bb,toN]at c11
  ·refine gE [0,1,4] ?_
   refine gT ?_
   rw[yU,iQ c1,iQ c3,iP c9,iN (by (try simp only[bb,toN]);exact c10),iP (by (try simp only[bb,toN]);exact c11)];rfl
  refine gE [0,4,6,7] ?_
  refine gE [0,4,6,7,81] ?_
  refine gE [0,4,6,7,81,82] ?_
  refine zB ?_ ?_<;>intro c12<;>try simp only[toN]at c12
  ·refine zB ?_ ?_<;>intro c13<;>try simp only[toN]at c13
   ·exact absurd c13 c3
   refine gE [0,4,6,7,81,88] ?_
   refine zB ?_ ?_<;>intro c14<;>try simp only[toN]at c14
   ·refine gR [.call (qb (decide (((l.getD 0 dF).n)<((l.getD 1 dF).n))))] [0,4,6,7] ?_
    refine gT ?_
    rw[yU,iQ c1,iQ c3,iP c9,iN (by (try simp only[bb,toN]);exact c10),iN (by (try simp only[bb,toN]);exact c11),iP c12,iP c14];rfl
   refine gE [0,4,6,7,94] ?_
   refine zB ?_ ?_<;>intro c15<;>try simp only[toN]at c15
   ·refine gR [.call (qb (decide (((l.getD 0 dF).n)=((l.getD 1 dF).n))))] [0,4,6,7] ?_
    refine gT ?_
    rw[yU,iQ c1,iQ c3,iP c9,iN (by (try simp only[bb,toN]);exact c10),iN (by (try simp only[bb,toN]);exact c11),iP c12,iQ c14,iP c15];rfl
   refine gR [.call (UH op ((l.getD 0 dF).n) ((l.getD 1 dF).n))] [4] ?_
   refine gT ?_
   rw[yU,iQ c1,iQ c3,iP c9,iN (by (try simp only[bb,toN]);exact c10),iN (by (try simp only[bb,toN]);exact c11),iP c12,iQ c14,iQ c15];rfl
  refine gE [0,4,6,7,81,82] ?_
  refine zB ?_ ?_<;>intro c16<;>try simp only[toN]at c16
  ·refine gR [.call (qb (decide (op=4)))] [0,4,6,7] ?_
   refine gT ?_
   rw[yU,iQ c1,iQ c3,iP c9,iN (by (try simp only[bb,toN]);exact c10),iN (by (try simp only[bb,toN]);exact c11),iQ c12];rfl
  exact absurd c9 c16
 refine gE [0,1,4,41] ?_
 refine zB ?_ ?_<;>intro c17<;>try simp only[toN]at c17
 ·refine gR [.eq (Wz (l.getD 1 dF) (l.getD 2 dF))] [0,1,4,55] ?_
  refine zF ?_ ?_<;>intro c18<;>try simp only[bb,toN]at c18
  ·refine gE [0,1,4] ?_
   refine gT ?_
   rw[yU,iQ c1,iQ c3,iQ c9,iP c17,iP (by (try simp only[bb,toN]);exact c18)];rfl
  refine gE [0,1,4] ?_
  refine gT ?_
  rw[yU,iQ c1,iQ c3,iQ c9,iP c17,iN (by (try simp only[bb,toN]);exact c18)];rfl
 refine gE [0,1,4,71] ?_
 refine zF ?_ ?_<;>intro c19<;>try simp only[bb,toN]at c19
 ·refine gE [0,1,4] ?_
  refine gT ?_
  rw[yU,iQ c1,iQ c3,iQ c9,iQ c17,iP (by (try simp only[bb,toN]);exact c19)];rfl
 refine gE [0,4,6,7] ?_
 refine gE [0,4,6,7,81] ?_
 refine gE [0,4,6,7,81,82] ?_
 refine zB ?_ ?_<;>intro c20<;>try simp only[toN]at c20
 ·refine zB ?_ ?_<;>intro c21<;>try simp only[toN]at c21
  ·exact absurd c21 c3
  refine gE [0,4,6,7,81,88] ?_
  refine zB ?_ ?_<;>intro c22<;>try simp only[toN]at c22
  ·refine gR [.call (qb (decide (((l.getD 0 dF).n)<((l.getD 1 dF).n))))] [0,4,6,7] ?_
   refine gT ?_
   rw[yU,iQ c1,iQ c3,iQ c9,iQ c17,iN (by (try simp only[bb,toN]);exact c19),iP c20,iP c22];rfl
  refine gE [0,4,6,7,94] ?_
  refine zB ?_ ?_<;>intro c23<;>try simp only[toN]at c23
  ·refine gR [.call (qb (decide (((l.getD 0 dF).n)=((l.getD 1 dF).n))))] [0,4,6,7] ?_
   refine gT ?_
   rw[yU,iQ c1,iQ c3,iQ c9,iQ c17,iN (by (try simp only[bb,toN]);exact c19),iP c20,iQ c22,iP c23];rfl
  refine gR [.call (UH op ((l.getD 0 dF).n) ((l.getD 1 dF).n))] [4] ?_
  refine gT ?_
  rw[yU,iQ c1,iQ c3,iQ c9,iQ c17,iN (by (try simp only[bb,toN]);exact c19),iP c20,iQ c22,iQ c23];rfl
 refine gE [0,4,6,7,81,82] ?_
 refine zB ?_ ?_<;>intro c24<;>try simp only[toN]at c24
 ·exact absurd c24 c9
 refine gE [0,4,6,7,81,88] ?_
 refine zB ?_ ?_<;>intro c25<;>try simp only[toN]at c25
 ·refine gR [.call (qb (decide (((l.getD 0 dF).n)<((l.getD 1 dF).n))))] [0,4,6,7] ?_
  refine gT ?_
  rw[yU,iQ c1,iQ c3,iQ c9,iQ c17,iN (by (try simp only[bb,toN]);exact c19),iQ c20,iP c25];rfl
 refine gE [0,4,6,7,94] ?_
 refine zB ?_ ?_<;>intro c26<;>try simp only[toN]at c26
 ·refine gR [.call (qb (decide (((l.getD 0 dF).n)=((l.getD 1 dF).n))))] [0,4,6,7] ?_
  refine gT ?_
  rw[yU,iQ c1,iQ c3,iQ c9,iQ c17,iN (by (try simp only[bb,toN]);exact c19),iQ c20,iQ c25,iP c26];rfl
 refine gR [.call (UH op ((l.getD 0 dF).n) ((l.getD 1 dF).n))] [4] ?_
 refine gT ?_
 rw[yU,iQ c1,iQ c3,iQ c9,iQ c17,iN (by (try simp only[bb,toN]);exact c19),iQ c20,iQ c25,iQ c26];rfl
def VQ (l:List Int):List D:=[.row dF inC l]
def nlC:Option (List Int)->List D
 |none=>[.sc (.slice none 0 0)]
 |some l=>[.row dF inC l]
theorem zQc (l:List (List Int)):zS nlC (l.map some)=zS VQ l:=by simp[zS,nlC,VQ]
def Je {β:Type} (g:Tm->β) (d:β) (l:List Tm) (k:Nat):List β:=(l.take k).map g++List.replicate (l.length-k) d
theorem Wh {β:Type} (g:Tm->β) (d:β) (l:List Tm) (k:Nat):(Je g d l k).length=l.length:=by simp[Je];omega
theorem ZCk {β:Type} (g:Tm->β) (d:β) (l:List Tm):Je g d l 0=List.replicate l.length d:=by simp[Je]
theorem ZCj {β:Type} (g:Tm->β) (d:β) {l:List Tm} {k:Nat} (h:¬k<l.length):Je g d l k=l.map g:=by
 rw[Je,List.take_of_length_le t11,show l.length-k=0 by omega];simp
theorem Hz {β:Type} (g:Tm->β) (d:β) {l:List Tm} {k:Nat} (h:k<l.length):(Je g d l k).set k (g (l.getD k dF))=Je g d l (k+1):=by
 have hl:((l.take k).map g).length=k:=by simp;omega
 rw[Je,List.set_append_right _ _ t11,hl,Nat.sub_self,show l.length-k=(l.length-(k+1))+1 by omega,List.replicate_succ,List.set_cons_zero,Je,vP h,List.map_append]
 simp
def jl (f:Tm->Cel×List Int) (m:Mch) (t:Tm):Cel×List Int:=
 if t.op=0∨t.op=1 then (⟨true,t.n⟩,[])else if t.op=2 then if (HG m t.n).known=true then (HG m t.n,[])else (⟨false,0⟩,[t.n])else
 if t.op=6/\((t.args.map fun a=>(f a).1).getD 0 dF).known=true then
  ((t.args.map fun a=>(f a).1).getD (2-((t.args.map fun a=>(f a).1).getD 0 dF).n).toNat dF,(t.args.map fun a=>(f a).2).getD (2-((t.args.map fun a=>(f a).1).getD 0 dF).n).toNat dF)
 else if (yU t.op (t.args.map fun a=>(f a).1)).known=true then (yU t.op (t.args.map fun a=>(f a).1),[])else (⟨false,0⟩,(t.args.map fun a=>(f a).2).flatten)
def VU:Go.Shelf.Ren:=⟨fun|4=>276|n=>n,fun|0=>0|3=>3|4=>4|9=>9|20=>20|22=>68|25=>3|n=>n,fun n=>n⟩
theorem zBa:Go.Proofs.Lays8.n4 Tryz.prog VU:= {
 mixed:=by kernel_rfl
 f4:=⟨ "slices.Grow[[]int,int]",by kernel_rfl,Tryz.func276.trans (congrArg some (by kernel_rfl))⟩
 t0:=Tryz.underlying0
 a0:=Tryz.isAgg0
 z0:=Tryz.sizeOf0
 v0:=Tryz.zeroValue0
 t3:=Tryz.underlying3
 a3:=Tryz.isAgg3
 z3:=Tryz.sizeOf3
 v3:=Tryz.zeroValue3
 t4:=Tryz.underlying4
 a4:=Tryz.isAgg4
 z4:=Tryz.sizeOf4
 v4:=Tryz.zeroValue4
 t9:=Tryz.underlying9
 a9:=Tryz.isAgg9
 z9:=Tryz.sizeOf9
 v9:=Tryz.zeroValue9
 t20:=Tryz.underlying20
 a20:=Tryz.isAgg20
 z20:=Tryz.sizeOf20
 v20:=Tryz.zeroValue20
 t22:=Tryz.underlying68
 a22:=Tryz.isAgg68
 z22:=Tryz.sizeOf68
 v22:=Tryz.zeroValue68}
theorem zYg (n:Nat) (hn:n<=1000):GM Tryz.prog 276 [.d (.sc (.slice none 0 0)),.d (.sc (.int .i64 n))] [] (.sl 0 1 0 0) [some (.row 3 1 (dF:Int) inC [] 0)]:=by
 refine zRx (vs:= #[.slice none 0 0,.int .i64 n]) Tryz.func276 rfl rfl dF inC (fun ν F w us hv=> ?_) fun w=> ?_
 ·obtain ⟨l⟩:=us
  match l,hv.1 with
  | [a,b],_=>
    have h0:=hv.2 0 _ a rfl rfl
    have h1:=hv.2 1 _ b rfl rfl
    rw[h0.sc_eq.1,h1.sc_eq.1]
 by_cases h:n=0
 ·subst h
  exact (Go.Proofs.Any8.slices_Grow_room zBa none 0 0 0 w (Nat.le_refl _) t11 t11 (Nat.le_refl _)).mono fun e w' he=> .inl he
 obtain ⟨i0,hi0,hs0,hb0,hz0⟩:=(env.ty 3 _ rfl).info
 have hs1:i0.size=1:=hs0
 have hb1:i0.bytes=8:=hb0
 have hz1:i0.zero=some (.int .i64 0):=hz0
 refine (Go.Proofs.Any8.slices_Grow_grow zBa i0 (.int .i64 0) hi0 hz1 t11 none 0 0 n [] w (Nat.le_refl _) t11 (by rw[hb1];omega) t11 t27 (fun _=>rfl) (fun a h=>by cases h)).mono fun e w' ⟨he,hw⟩=> .inr ?_
 have hge:=grownCap_ge w (0+n) 0 (VU.t 25)
 have hle:=grownCap_le_maxLen w (0+n) 0 (VU.t 25) (by unfold maxLen;omega)
 refine ⟨_,_,he,hw,hle,?_,fun u hu=> ?_⟩
 ·generalize grownCap w (0+n) 0 (VU.t 25)=q at*
  have e:∀m,(Builtin.zeroCells (Value.cells (.int .i64 0)) m).size=m:=fun m=>by
   show ((Array.range (m*1)).map _).size=m
   simp
  rw[Array.size_append,Array.size_append,e,e]
  simp
  omega
 have hone:∀m,∀u,u∈Builtin.zeroCells (Value.cells (.int .i64 0)) m->u= .int .i64 0:=fun m u hu=>by
  obtain ⟨i,_,rfl⟩:=Array.mem_map.1 hu
  show (#[Value.int .i64 0])[i % 1]! =_
  rw[Nat.mod_one];rfl
 simp only[Array.toList_append,List.mem_append,Array.mem_toList_iff]at hu
 rcases hu with (hu|hu)|hu
 ·simp at hu
 ·rw[hone _ u hu];rfl
 rw[hone _ u hu];rfl
theorem zNg (ls:List (List Int)) (h:ls.flatten.length<=1000) (hl:ls.length<=1000):GC Tryz.prog 248 [.d (.row dF VQ ls)] (qq ls.flatten):=by
 have hpre:∀k,k<ls.length->(ls.take (k+1)).flatten=(ls.take k).flatten++ls.getD k dF:=fun k hk=>by
  rw[List.take_succ_eq_append_getElem hk,List.flatten_append,List.getD_eq_getElem?_getD,List.getElem?_eq_getElem hk];simp
 have hbnd:∀k,(ls.take k).flatten.length<=1000:=fun k=>by
  have e:ls.flatten=(ls.take k).flatten++(ls.drop k).flatten:=by rw[<-List.flatten_append,List.take_append_drop]
  rw[e,List.length_append]at h;omega
 refine zA Tryz.func248 ?_
 refine gE [0,2] ?_
 refine gE [0,2,3] ?_
 refine gE [0,2,3,9,10,11] ?_
 refine zI (α:=Int×Nat) (fun x=>x.2<=ls.length/\x.1=((ls.take x.2).flatten.length:Int)) (fun x=>[(3,iG x.1),(11,iG x.2)]) (fun _=>[]) (fun x=>ls.length-x.2) (0,0) ⟨Nat.zero_le _,rfl⟩ ?_ (hp:=t43)
 rintro ⟨s,k⟩ ⟨hk,hs⟩
 dsimp only at hk hs⊢
 refine gE [0,2,3,9,10,11,12] ?_
 refine zB (fun c1=> ?_) (fun c1=> ?_)
 ·have hk2:k<ls.length:=by omega
  have hb:=hbnd (k+1)
  have hst:s+((ls.getD k dF).length:Int)=((ls.take (k+1)).flatten.length:Int):=by rw[hpre k hk2,List.length_append,hs];omega
  have hw:IntKind.i64.wrap (s+((ls.getD k dF).length:Int))=((ls.take (k+1)).flatten.length:Int):=by rw[hst];exact za (by unfold inR;omega)
  refine gP [] [0,2,3,5,9,10,11] ?_
  refine gP [] [0,2,3,9,10,11] ?_
  refine gE [0,2,3,9,10,11,20] ?_
  refine zB (fun c2=> ?_) (fun c2=> ?_)
  ·exact absurd c2 (by first|omega|(rw[hw];omega))
  refine gP [] [0,2,3,9,10,11] ?_
  exact zD (_,k+1) ⟨hk2,by first|exact hst|exact hw⟩ (hp:=t43) (hm:=by dsimp only;omega)
 have e:k=ls.length:=by omega
 rw[e,List.take_length]at hs
 subst hs
 refine gR [.callm [] (zYg ls.flatten.length t11)] [0,2,6] ?_
 refine gE [2,6,25,26,27] ?_
 refine zI (α:=List Int×Nat) (fun x=>x.2<=ls.length/\x.1=(ls.take x.2).flatten) (fun x=>[(27,iG x.2),(6,.sl 0 1 0 x.1.length)]) (fun x=>[(0,some (.row 3 1 (dF:Int) inC x.1 0))]) (fun x=>ls.length-x.2) ([],0) ⟨Nat.zero_le _,rfl⟩ ?_ (hp:=t43)
 rintro ⟨xs,j⟩ ⟨hj,hxs⟩
 dsimp only at hj hxs⊢
 refine gE [2,6,25,26,27,28] ?_
 refine zB (fun c3=> ?_) (fun c3=> ?_)
 ·have hj2:j<ls.length:=by omega
  have hst:=hpre j hj2
  have hb:=hbnd (j+1)
  rw[<-hxs]at hst
  rw[hst,List.length_append]at hb
  refine gP [] [2,6,8,25,26,27] ?_
  refine gU [.el dF inC (xs++ls.getD j dF)] [2,6,25,26,27] ?_
  refine gP [] [2,6,25,26,27] ?_
  exact zD (xs++ls.getD j dF,j+1) ⟨hj2,hst.symm⟩ (hp:=t43) (hm:=by dsimp only;omega)
 have e2:j=ls.length:=by omega
 rw[e2,List.take_length]at hxs
 refine gE [2] ?_
 refine gT ?_ (hp:=by simp only[zC];repeat' first|exact trivial|omega|apply And.intro)
 rw[<-hxs];rfl
theorem zVq (f:Tm->Cel×List Int) (m:Mch) (t:Tm) (d:Nat) (hf:∀j,d=j+1->∀i,i<t.args.length->GC Tryz.prog 217 [mcG m,Qu j (t.args.getD i dF)] (.tup [ceG (f (t.args.getD i dF)).1,qq (f (t.args.getD i dF)).2])) (ht:Yd d t) (hm:m.cells.length<=9223372036854775807) (hv:t.op=2->0<=t.n) (h1:¬t.op=0->¬t.op=1->¬t.op=2->1<=t.args.length/\(t.op≠3->2<=t.args.length)/\(t.op=6->3<=t.args.length)/\t.args.length<=3) (h6:t.op=6->(f (t.args.getD 0 dF)).1.known=true->0<=(f (t.args.getD 0 dF)).1.n/\(f (t.args.getD 0 dF)).1.n<=1) (hs:(t.args.map fun a=>(f a).2).flatten.length<=1000):GC Tryz.prog 217 [mcG m,Qu d t] (.tup [ceG (jl f m t).1,qq (jl f m t).2]):=by
 have hl:=ht.len
 refine zA Tryz.func217 ?_
 refine gE [2,3,4,5] ?_
 refine gE [2,3,4,5,14] ?_
 refine gE [2,3,4,5,14,15] ?_
 refine zB ?_ ?_<;>intro c1<;>try simp only[toN]at c1
 ·refine zB ?_ ?_<;>intro c2<;>try simp only[toN]at c2
  ·refine gE [2,3,4,5] ?_
   refine Zq env ?_
   rw[jl,iP (.inl c1)];exact Ent.tup ⟨Ent.refl _,Ent.nil,trivial⟩
  exact absurd c1 c2
 refine gE [2,3,4,5,14,15] ?_
 refine zB ?_ ?_<;>intro c3<;>try simp only[toN]at c3
 ·refine gE [2,3,4,5] ?_
  refine Zq env ?_
  rw[jl,iP (.inr c3)];exact Ent.tup ⟨Ent.refl _,Ent.nil,trivial⟩
 refine gE [2,3,4,5,21] ?_
 refine zB ?_ ?_<;>intro c4<;>try simp only[toN]at c4
 ·refine gR [.call (ZAv m t.n (hv t12) hm)] [2,3,4,5,6] ?_
  refine gE [2,3,4,5,6,28] ?_
  refine zF ?_ ?_<;>intro c5<;>try simp only[bb,toN]at c5
  ·refine gE [2,3,4,5] ?_
   refine Zq env ?_
   rw[jl,iQ t11,iP c4,iP c5];exact Ent.tup ⟨Ent.refl _,Ent.nil,trivial⟩
  refine gR [.el dF inC [t.n]] [2,3,4,5] ?_
  refine gT ?_
  rw[jl,iQ t11,iP c4,iQ (by rw[c5];simp)];rfl
 refine gR [.el dF ceC (List.replicate t.args.length dF)] [2,3,4,5,7] ?_ (hp:=t29)
 refine gR [.el dF nlC (List.replicate t.args.length none)] [2,3,4,5,7,8] ?_ (hp:=t29)
 refine gE [2,3,4,5,7,8,43,44,45] ?_
 refine zI (α:=Nat) (fun k=>k<=t.args.length) (fun k=>[(45,iG k),(7,.sl 3 2 0 (Je (fun a=>(f a).1) dF t.args k).length),(8,.sl 4 1 0 (Je (fun a=>some (f a).2) none t.args k).length)]) (fun k=>[(3,some (.row 74 2 dF ceC (Je (fun a=>(f a).1) dF t.args k) 0)),(4,some (.row 68 1 dF nlC (Je (fun a=>some (f a).2) none t.args k) 0))]) (fun k=>t.args.length-k) 0 t11 ?_ (hp:=by simp[zC,ZCk,zS]<;>rfl)
 rintro k hk
 refine gE [2,3,4,5,7,8,43,44,45,46] ?_
 refine zB ?_ ?_<;>intro c6<;>try simp only[toN]at c6
 ·obtain ⟨j,rfl,hfa⟩:=ht.at_ (i:=k) t11
  refine gE [2,3,4,5,7,8,9,10,43,44,45] ?_
  refine gR [.call (hf _ rfl k t11),.el dF ceC (Je (fun a=>(f a).1) dF t.args (k+1)),.el dF nlC (Je (fun a=>some (f a).2) none t.args (k+1))] [2,3,4,5,7,8,43,44,45] ?_ (hp:=(by simp only[zC,bb,toN,Wh];repeat' first|exact trivial|exact zH.refl _|exact zE.refl _|exact rfl|exact Nat.le_refl _|omega|apply And.intro|intro _|(rw[<-Hz _ _ t11];exact (ZV (cs:=ceC) (by rw[Wh];omega) rfl t25).symm)|(rw[<-Hz _ _ t11];exact (ZV (cs:=nlC) (x:=some (f (t.args.getD k dF)).2) (by rw[Wh];omega) rfl (by cases (Je (fun a=>some (f a).2) none t.args k).getD k dF<;>rfl)).symm)))
  refine gE [2,3,4,5,7,8,43,44,45] ?_
  refine zD (k+1) ?_ (hp:=by simp[zC,Wh])
  omega
 obtain ⟨hA,hB,hC,hD⟩:=h1 t12 t12 t12
 simp only[ZCj _ _ (show ¬k<t.args.length by omega)]
 have eN:(t.args.map fun a=>some (f a).2)=(t.args.map fun a=>(f a).2).map some:=by rw[List.map_map];rfl
 simp only[eN]
 refine Qy 4 ?_
 refine ZDs 8 (.d (.row dF VQ (t.args.map fun a=>(f a).2))) (Ent.rowEq (zQc _)) ?_
 have e0:(t.args.map fun a=>(f a).1).getD 0 dF=(f (t.args.getD 0 dF)).1:=by simp[List.getD_eq_getElem?_getD,List.getElem?_eq_getElem (show 0<t.args.length by omega)]
 have eL:(t.args.map fun a=>(f a).1).length=t.args.length:=by simp
 have eM:(t.args.map fun a=>(f a).2).length=t.args.length:=by simp
 refine gE [3,4,5,7,8,71] ?_ (hp:=(by simp only[zC,bb,toN,eL];repeat' first|exact trivial|exact zH.refl _|exact zE.refl _|exact rfl|exact Nat.le_refl _|omega|apply And.intro|intro _))
 refine zF ?_ ?_<;>intro c7<;>try simp only[bb,toN]at c7
 ·have h6a:=h6 c7.1 (by rw[<-e0];exact c7.2)
  rw[<-e0]at h6a
  have hC:=hC c7.1
  refine gE [3,4,5,7,8,11] ?_
  refine gE [3,4,5,7,8] ?_ (hp:=(by simp only[zC,bb,toN,eL,eM];repeat' first|exact trivial|exact zH.refl _|exact zE.refl _|exact rfl|exact Nat.le_refl _|omega|apply And.intro|intro _))
  refine gT ?_
  rw[jl,iQ t11,iQ c4,iP c7];simp only[toN];rfl
 refine gR [.call (zZd t.op (t.args.map fun a=>(f a).1) t11 t11 t11)] [4,5,8,12] ?_
 refine gE [4,5,8,12,90] ?_
 refine zF ?_ ?_<;>intro c8<;>try simp only[bb,toN]at c8
 ·refine gE [4,5,8] ?_
  refine Zq env ?_
  rw[jl,iQ t11,iQ c4,iQ (by intro h;rcases c7 with c7|c7<;>simp_all),iP c8];exact Ent.tup ⟨Ent.refl _,Ent.nil,trivial⟩
 refine gR [.call (zNg (t.args.map fun a=>(f a).2) hs t11)] [4,5] ?_
 refine gT ?_
 rw[jl,iQ t11,iQ c4,iQ (by intro h;rcases c7 with c7|c7<;>simp_all),iQ (by rw[c8];simp)];rfl
theorem zZh (f:Tm->Int×Int) (t:Tm):∀(n i:Nat) (acc:List Int),t.args.length-i=n->i<=t.args.length->acc.length=t.args.length->(yy f t acc i).2=0→
 (∀j,i<=j->j<t.args.length->(f (t.args.getD j dF)).2=0)/\∃acc',acc'.length=t.args.length/\(∀j,i<=j->j<t.args.length->acc'.getD j dF=(f (t.args.getD j dF)).1)/\(∀j,j<i->acc'.getD j dF=acc.getD j dF)/\yy f t acc i=yy f t acc' t.args.length:=by
 intro n
 induction n with
 |zero=>
  intro i acc h hi hl h0
  obtain rfl:i=t.args.length:=by omega
  exact ⟨fun j a b=>by omega,acc,hl,fun j a b=>by omega,fun j _=>rfl,rfl⟩
 |succ n ih=>
  intro i acc h hi hl h0
  rw[yy,iP t11]at h0
  rw[yy,iP t11]
  split at h0
  ·rename_i hc
   rw[iP hc]
   obtain ⟨h1,acc',h2,h3,h4,h5⟩:=ih (i+1) _ t11 t11 (by rw[List.length_set];exact hl) h0
   refine ⟨fun j a b=> ?_,acc',h2,fun j a b=> ?_,fun j a=> ?_,h5⟩
   ·by_cases e:j=i
    ·subst e;exact hc
    exact h1 j t11 b
   ·by_cases e:j=i
    ·subst e
     rw[h4 j t11,List.getD_eq_getElem?_getD,List.getElem?_set_self t11];rfl
    exact h3 j t11 b
   rw[h4 j t11,List.getD_eq_getElem?_getD,List.getElem?_set_ne t11,<-List.getD_eq_getElem?_getD]
  rename_i hc;exact absurd h0 hc
theorem uw {f:Tm->Int×Int} {t:Tm} (h:(yk f t).2=0):(∀j,j<t.args.length->(f (t.args.getD j dF)).2=0)∧
 (((t.op=0∨t.op=1∨t.op=2)/\yk f t=Yk t)∨(3<=t.op/\t.op<=13/\t.args.length=(zj t.op).args.length/\∃acc,(∀j,j<t.args.length->acc.getD j dF=(f (t.args.getD j dF)).1)/\yk f t=ZH f t acc t.args.length (-1) 0)):=by
 rw[yk]at h⊢
 obtain ⟨h1,acc,h2,h3,_,h5⟩:=zZh f t _ 0 _ rfl (Nat.zero_le _) t27 h
 refine ⟨fun j hj=>h1 j (Nat.zero_le _) hj,?_⟩
 rw[h5]at h⊢
 rw[yy,iQ t11]at h⊢
 split at h
 ·cases h
 rename_i c1
 rw[iQ c1]
 rw[Bool.not_eq_true]at c1
 simp only[bb]at c1
 split at h
 ·rename_i c2
  rw[iP c2]
  simp only[bb]at c2
  exact .inl ⟨by omega,rfl⟩
 rename_i c2
 rw[iQ c2]
 rw[Bool.not_eq_true]at c2
 simp only[bb]at c2
 split at h
 ·cases h
 rename_i c3
 rw[iQ c3]
 rw[Bool.not_eq_true]at c3
 simp only[bb]at c3
 exact .inr ⟨by omega,by omega,by omega,acc,fun j hj=>h3 j (Nat.zero_le _) hj,rfl⟩
theorem zIc {t:Tm} (h:(Yk t).2=0) (_:t.op=0∨t.op=1∨t.op=2):t.args= []/\(t.op=2->0<=t.n/\(Yk t).1=(VE t.n).1)/\(t.op=1->0<=t.n/\t.n<=1)/\(t.op=0->(Yk t).1=0):=by
 unfold Yk at h⊢
 split at h
 ·cases h
 rename_i c1
 rw[iQ c1]
 refine ⟨List.eq_nil_of_length_eq_zero t11,?_⟩
 split at h
 ·rename_i c2;rw[iP c2]
  refine ⟨fun e=>by omega,fun e=>by omega,fun _=> ?_⟩
  split<;>rfl
 rename_i c2
 rw[iQ c2]
 split at h
 ·rename_i c3
  rw[iP c3]
  refine ⟨fun e=>by omega,fun _=> ?_,fun e=>by omega⟩
  split at h
  ·cases h
  rename_i c4
  rw[Bool.not_eq_true]at c4
  simp only[bb]at c4
  exact c4
 rename_i c3
 rw[iQ c3]
 refine ⟨fun _=> ?_,fun e=>by omega,fun e=>by omega⟩
 split at h
 ·cases h
 rename_i c4
 rw[iQ c4]
 refine ⟨?_,rfl⟩
 rw[Bool.not_eq_true]at c4
 unfold VE at c4
 split at c4
 ·cases c4
 rename_i c5
 rw[Bool.not_eq_true]at c5
 simp only[bb]at c5
 exact c5.1
theorem zFv {f:Tm->Int×Int} {t:Tm} {acc:List Int} {n:Nat} (ho:t.op=6) (hm:¬acc[1]?.getD 0= -1) (h:(ZH f t acc n (-1) 0).2=0):acc[0]?.getD 0=1/\acc[1]?.getD 0=acc[2]?.getD 0/\(ZH f t acc n (-1) 0).1=acc[1]?.getD 0:=by
 have hs:zj t.op=⟨[1,(-1),(-1)],(-1)⟩:=by rw[ho];rfl
 rw[ZH,hs]at h⊢
 simp at h⊢
 split at h
 ·rename_i h0
  rw[ZH,hs]at h
  simp at h
  rw[iP h0]
  rw[ZH,hs]
  simp
  refine ⟨h0,?_⟩
  rw[ZH,hs]at h⊢
  simp[hm]at h⊢
  split at h
  ·rename_i h2
   rw[iP h2,ZH,iQ (by rw[hs];simp)]
   simp[hs]
   exact h2.symm
  cases h
 cases h
theorem ux {f:Tm->Int×Int} {t:Tm} {acc:List Int} {m:Nat} (hr:¬(zj t.op).result= -1):∀(n k:Nat) (a:Int),(zj t.op).args.length-k=n->(ZH f t acc m a k).2=0->(ZH f t acc m a k).1=(zj t.op).result:=by
 intro n
 induction n with
 |zero=>intro k a hk;rw[ZH,iQ t11,iQ hr];exact fun _=>rfl
 |succ n ih=>
  intro k a hk
  rw[ZH,iP t11]
  repeat' split
  all_goals first|exact ih _ _ t11|(intro h;cases h)
def ja:Nat->Tm->Int×Int
 |0=>yk fun _=>(0,0)
 |k+1=>yk (ja k)
theorem zTn:∀(k:Nat) (t:Tm),Yd k t->GC Tryz.prog 245 [Qu k t] (.tup [iG (ja k t).1,iG (ja k t).2]):=by
 intro k
 induction k with
 |zero=>intro t h;exact zIu _ t 0 (fun j e=>by omega) h
 |succ k ih=>intro t h;exact zIu (ja k) t (k+1) (fun j e=>by cases e;exact ih) h
theorem zAn (t:Tm):(Yk t).1=0∨(Yk t).1=1:=by
 unfold Yk
 repeat' split
 all_goals first|exact .inl rfl|exact .inr rfl|skip
 unfold VE
 repeat' split
 all_goals first|exact .inl rfl|exact .inr rfl
theorem vQ (o:Int):o=6/\(zj o).result= -1/\(zj o).args.length=3∨¬o=6/\((zj o).result=0∨(zj o).result=1):=by
 by_cases h:o=6
 ·subst h;exact .inl ⟨rfl,rfl,rfl⟩
 refine .inr ⟨h,?_⟩
 unfold zj
 repeat' split
 all_goals first|exact .inl rfl|exact .inr rfl|omega
theorem zIt:∀(k:Nat) (t:Tm),Yd k t->(ja k t).2=0->(ja k t).1=0∨(ja k t).1=1:=by
 intro k
 induction k with
 |zero=>
  intro t ht h
  have ha:t.args= []:=ht
  obtain ⟨_,h2⟩:=uw (show (yk (fun _=>(0,0)) t).2=0 from h)
  rcases h2 with ⟨_,h3⟩|⟨_,_,h3,acc,h4,h5⟩
  ·show (yk _ t).1=0∨(yk _ t).1=1
   rw[h3];exact zAn t
  show (yk _ t).1=0∨(yk _ t).1=1
  have h':(yk (fun _=>(0,0)) t).2=0:=h
  rw[h5]at h'⊢
  rcases vQ t.op with ⟨_,_,hl⟩|⟨hn,hr⟩
  ·rw[ha,hl]at h3;cases h3
  rw[ux t11 _ _ _ rfl h'];exact hr
 |succ k ih=>
  intro t ht h
  obtain ⟨h1,h2⟩:=uw (show (yk (ja k) t).2=0 from h)
  have h':(yk (ja k) t).2=0:=h
  rcases h2 with ⟨_,h3⟩|⟨_,_,h3,acc,h4,h5⟩
  ·show (yk _ t).1=0∨(yk _ t).1=1
   rw[h3];exact zAn t
  show (yk _ t).1=0∨(yk _ t).1=1
  rw[h5]at h'⊢
  rcases vQ t.op with ⟨ho,_,hl⟩|⟨hn,hr⟩
  ·have e1:=h4 1 t11
   rw[List.getD_eq_getElem?_getD]at e1
   have hi:=ih _ (ht.2 _ (zK (l:=t.args) (i:=1) t11)) (h1 1 t11)
   have e1':acc[1]?.getD 0=(ja k (t.args.getD 1 dF)).1:=e1
   rw[(zFv ho (by rw[e1'];omega) h').2.2,e1']
   exact hi
  rw[ux t11 _ _ _ rfl h'];exact hr
def Bl (c:Cel):Prop:=c.known=true->0<=c.n/\c.n<=1
theorem zNu (b:Bool):Bl (qm b):=by cases b<;>(intro _;decide)
theorem Vk:Bl ⟨false,0⟩:=fun h=>by cases h
theorem ZAw (m:Mch) {v:Int} (h:(VE v).1=1):Bl (HG m v):=by
 unfold HG
 split
 ·exact Vk
 exact zNu _
theorem zIq {op:Int} (l:List Cel) (h:op=3∨op=4∨op=5∨op=7∨op=8∨op=6/\Bl (l.getD 1 dF)):Bl (yU op l):=by
 unfold yU
 repeat' split
 all_goals first|exact zNu _|exact Vk|(exfalso;omega)|(rcases h with h|h|h|h|h|h<;>first|(exfalso;omega)|exact h.2)
theorem zDm {o:Int} (h6:¬o=6) (h:(zj o).result=1):o=3∨o=4∨o=5∨o=7∨o=8:=by
 unfold zj at h
 repeat' split at h
 all_goals first|omega|(simp at h)
def VG (m:Mch):Nat->Tm->Cel×List Int
 |0=>jl (fun _=>(dF,[])) m
 |k+1=>jl (VG m k) m
theorem zHj (m:Mch) {f:Tm->Int×Int} {g:Tm->Cel×List Int} {t:Tm} (h:(yk f t).2=0) (h1:(yk f t).1=1) (HB:∀j,j<t.args.length->(f (t.args.getD j dF)).2=0->(f (t.args.getD j dF)).1=1->Bl (g (t.args.getD j dF)).1) (HT:∀j,j<t.args.length->(f (t.args.getD j dF)).2=0->¬(f (t.args.getD j dF)).1= -1):Bl (jl g m t).1:=by
 obtain ⟨ha,hk⟩:=uw h
 rcases hk with ⟨ho,hl⟩|⟨h3,h13,hlen,acc,hacc,hc⟩
 ·rw[hl]at h h1
  obtain ⟨_,l2,l1,l0⟩:=zIc h ho
  unfold jl
  rcases ho with ho|ho|ho
  ·have:=l0 ho;omega
  ·rw[iP (.inr ho)];exact fun _=>l1 ho
  rw[iQ t11,iP ho]
  split
  ·exact ZAw m (by rw[<-(l2 ho).2];exact h1)
  exact Vk
 rw[hc]at h h1
 have hg:∀j,j<t.args.length->(t.args.map fun a=>(g a).1).getD j dF=(g (t.args.getD j dF)).1:=fun j hj=>by
  simp[List.getD_eq_getElem?_getD,List.getElem?_eq_getElem hj]
 unfold jl
 rw[iQ t11,iQ t11]
 rcases vQ t.op with ⟨ho,_,hl⟩|⟨hn,hr⟩
 ·have hlen:t.args.length=3:=by omega
  have e0:=hacc 0 t11
  have e1:=hacc 1 t11
  have e2:=hacc 2 t11
  rw[List.getD_eq_getElem?_getD]at e0 e1 e2
  have e1':acc[1]?.getD 0=(f (t.args.getD 1 dF)).1:=e1
  have e0':acc[0]?.getD 0=(f (t.args.getD 0 dF)).1:=e0
  have e2':acc[2]?.getD 0=(f (t.args.getD 2 dF)).1:=e2
  obtain ⟨q0,q1,q2⟩:=zFv ho (by rw[e1'];exact HT 1 t11 (ha 1 t11)) h
  rw[q2,e1']at h1
  have b0:=HB 0 t11 (ha 0 t11) (by rw[<-e0',q0])
  have b1:=HB 1 t11 (ha 1 t11) h1
  have b2:=HB 2 t11 (ha 2 t11) (by rw[<-e2',<-q1,e1'];exact h1)
  split
  ·rename_i hk
   have hk2:=hk.2
   rw[hg 0 t11]at hk2
   have:=b0 hk2
   show Bl ((t.args.map fun a=>(g a).1).getD _ dF)
   rw[hg 0 t11]
   have hx:(2-(g (t.args.getD 0 dF)).1.n).toNat=1∨(2-(g (t.args.getD 0 dF)).1.n).toNat=2:=by omega
   rcases hx with hx|hx
   ·rw[hx,hg 1 t11];exact b1
   rw[hx,hg 2 t11];exact b2
  split
  ·exact zIq _ (.inr (.inr (.inr (.inr (.inr ⟨ho,by rw[hg 1 t11];exact b1⟩)))))
  exact Vk
 rw[ux t11 _ _ _ rfl h]at h1
 have hb:=zDm hn h1
 rw[iQ (by intro x;exact hn x.1)]
 split
 ·exact zIq _ t11
 exact Vk
theorem zVp (m:Mch):∀(k:Nat) (t:Tm),Yd k t->(ja k t).2=0->(ja k t).1=1->Bl (VG m k t).1:=by
 intro k
 induction k with
 |zero=>
  intro t ht h h1
  have ha:t.args= []:=ht
  exact zHj m (f:=fun _=>(0,0)) h h1 (fun j hj=>by rw[ha]at hj;simp at hj) (fun j hj=>by rw[ha]at hj;simp at hj)
 |succ k ih=>
  intro t ht h h1
  exact zHj m (f:=ja k) (g:=VG m k) h h1 (fun j hj a b=>ih _ (ht.2 _ (zK hj)) a b) (fun j hj a b=>by have:=zIt k _ (ht.2 _ (zK hj)) a;omega)
def nod:Nat->Tm->Nat
 |0,_=>1
 |k+1,t=>1+(t.args.map (nod k)).sum
theorem zIk {g:Tm->Cel×List Int} {N:Tm->Nat} :∀(l:List Tm),(∀a,a∈l->(g a).2.length<=N a)->(l.map fun a=>(g a).2).flatten.length<=(l.map N).sum:=by
 intro l
 induction l with
 |nil=>intro _;simp
 |cons a l ih=>
  intro h
  have h1:=h a t27
  have h2:=ih fun b hb=>h b (by simp[hb])
  simp only[List.map_cons,List.flatten_cons,List.length_append,List.sum_cons]
  omega
theorem at_le {N:Tm->Nat} :∀(l:List Tm) (i:Nat) (g:Tm->Cel×List Int),(∀a,a∈l->(g a).2.length<=N a)->((l.map fun a=>(g a).2).getD i dF).length<=(l.map N).sum:=by
 intro l
 induction l with
 |nil=>intro i g _;simp[List.getD_eq_getElem?_getD];rfl
 |cons a l ih=>
  intro i g h
  have h1:=h a t27
  cases i with
  |zero=>simp only[List.map_cons,List.sum_cons];show (g a).2.length<=_;omega
  |succ i=>
   have h2:=ih i g fun b hb=>h b (by simp[hb])
   simp only[List.map_cons,List.sum_cons]
   show ((l.map fun a=>(g a).2).getD i dF).length<=_
   omega
theorem Vs (m:Mch) {g:Tm->Cel×List Int} {t:Tm} {N:Tm->Nat} (h:∀a,a∈t.args->(g a).2.length<=N a):(jl g m t).2.length<=1+(t.args.map N).sum:=by
 have h1:=zIk t.args h
 unfold jl
 split
 ·simp
 split
 ·split<;>simp
 split
 ·have:=at_le t.args ((2-((t.args.map fun a=>(g a).1).getD 0 dF).n).toNat) g h
  show ((t.args.map fun a=>(g a).2).getD _ dF).length<=_
  omega
 split
 ·simp
 show ((t.args.map fun a=>(g a).2).flatten).length<=_
 omega
theorem zDq (m:Mch):∀(k:Nat) (t:Tm),Yd k t->(VG m k t).2.length<=nod k t:=by
 intro k
 induction k with
 |zero=>
  intro t ht
  have ha:t.args= []:=ht
  have:=Vs m (g:=fun _=>(dF,[])) (t:=t) (N:=fun _=>0) (fun a _=>by simp)
  rw[ha]at this
  have h2:(jl (fun _=>(dF,[])) m t).2.length<=1:=by simpa using this
  exact h2
 |succ k ih=>intro t ht;exact Vs m (g:=VG m k) fun a ha=>ih a (ht.2 a ha)
theorem zQn (f:Tm->Int->Int) (t:Tm) (lv:Int) (N:Tm->Nat) (B:Int) (hB:B<=1000) (hlv:1<=lv/\lv<=8) (hb:∀j,j<t.args.length->1<=f (t.args.getD j dF) (lv+1)/\f (t.args.getD j dF) (lv+1)<=B/\(f (t.args.getD j dF) (lv+1)<=60->(N (t.args.getD j dF):Int)<=f (t.args.getD j dF) (lv+1))) (h60:0<=B):
 ∀(m i:Nat) (a:Int),t.args.length-i=m->i<=t.args.length->1<=a->a<=60->1<=Yj f t lv a i/\Yj f t lv a i<=60+B/\(Yj f t lv a i<=60->a+(((t.args.drop i).map N).sum:Nat)<=Yj f t lv a i):=by
 intro m
 induction m with
 |zero=>
  intro i a h hi h1 h2
  obtain rfl:i=t.args.length:=by omega
  rw[Yj,iQ t11,js]
  refine ⟨h1,by omega,fun _=> ?_⟩
  simp
 |succ m ih=>
  intro i a h hi h1 h2
  have hi2:i<t.args.length:=by omega
  obtain ⟨q1,q2,q3⟩:=hb i hi2
  have e1:IntKind.i64.wrap (lv+1)=lv+1:=za (by unfold inR;omega)
  have e2:IntKind.i64.wrap (a+f (t.args.getD i dF) (lv+1))=a+f (t.args.getD i dF) (lv+1):=za (by unfold inR;omega)
  have e3:t.args.drop i=t.args.getD i dF::t.args.drop (i+1):=by rw[List.drop_eq_getElem_cons hi2,List.getD_eq_getElem?_getD,List.getElem?_eq_getElem hi2];rfl
  rw[Yj,iP hi2,e1,e2]
  split
  ·rw[js];exact ⟨by omega,by omega,fun h=>by omega⟩
  obtain ⟨r1,r2,r3⟩:=ih (i+1) _ t11 hi2 (by omega:1<=a+f (t.args.getD i dF) (lv+1)) t11
  refine ⟨r1,r2,fun h=> ?_⟩
  have r4:=r3 h
  have r5:=q3 t11
  rw[e3,List.map_cons,List.sum_cons]
  omega
theorem zWu:∀(k:Nat) (t:Tm) (lv:Int),Yd k t->1<=lv->lv<=9->1<=Qj k t lv/\Qj k t lv<=61+60*(9-lv)/\(Qj k t lv<=60->(nod k t:Int)<=Qj k t lv):=by
 intro k
 induction k with
 |zero=>
  intro t lv ht h1 h2
  have ha:t.args= []:=ht
  rw[show Qj 0 t lv=Jd (fun _ _=>0) t lv from rfl,Jd]
  split
  ·exact ⟨by omega,by omega,fun h=>by omega⟩
  rw[Yj,iQ (by rw[ha];simp),js];exact ⟨by omega,by omega,fun _=>by show ((1:Nat):Int)<=1;omega⟩
 |succ k ih=>
  intro t lv ht h1 h2
  rw[show Qj (k+1) t lv=Jd (Qj k) t lv from rfl,Jd]
  split
  ·exact ⟨by omega,by omega,fun h=>by omega⟩
  obtain ⟨r1,r2,r3⟩:=zQn (Qj k) t lv (nod k) (61+60*(9-(lv+1))) t11 ⟨h1,by omega⟩ (fun j hj=>ih _ _ (ht.2 _ (zK hj)) t11 t11) t11 _ 0 1 rfl (Nat.zero_le _) t11 t11
  refine ⟨r1,by omega,fun h=> ?_⟩
  have:=r3 h
  rw[List.drop_zero]at this
  show ((1+(t.args.map (nod k)).sum:Nat):Int)<=_
  omega
theorem zJr {o:Int} (h1:3<=o) (h2:o<=13):1<=(zj o).args.length/\(o≠3->2<=(zj o).args.length)/\(o=6->3<=(zj o).args.length)/\(zj o).args.length<=3:=by
 have:o=3∨o=4∨o=5∨o=6∨o=7∨o=8∨o=9∨o=10∨o=11∨o=12∨o=13:=by omega
 rcases this with rfl|rfl|rfl|rfl|rfl|rfl|rfl|rfl|rfl|rfl|rfl<;>decide
theorem zUy {N:Tm->Nat} :∀ {l:List Tm} {a:Tm},a∈l->N a<=(l.map N).sum:=by
 intro l
 induction l with
 |nil=>intro a h;cases h
 |cons b l ih=>
  intro a h
  rw[List.map_cons,List.sum_cons]
  rcases List.mem_cons.1 h with rfl|h
  ·omega
  have:=ih h;omega
theorem zHi (k:Nat) (m:Mch) (t:Tm) (g:Tm->Cel×List Int) (c:Tm->Int×Int) (hf:∀j,k=j+1->∀i,i<t.args.length->GC Tryz.prog 217 [mcG m,Qu j (t.args.getD i dF)] (.tup [ceG (g (t.args.getD i dF)).1,qq (g (t.args.getD i dF)).2])) (ht:Yd k t) (hm:m.cells.length<=9223372036854775807) (hc:(yk c t).2=0) (hB:∀a,a∈t.args->(c a).2=0->(c a).1=1->Bl (g a).1) (hT:∀a,a∈t.args->(c a).2=0->(c a).1=0∨(c a).1=1) (hs:(t.args.map fun a=>(g a).2).flatten.length<=1000):GC Tryz.prog 217 [mcG m,Qu k t] (.tup [ceG (jl g m t).1,qq (jl g m t).2]):=by
 obtain ⟨ha,hk⟩:=uw hc
 refine zVq g m t k hf ht hm ?_ ?_ ?_ hs
 ·intro h2
  rcases hk with ⟨ho,hl⟩|⟨h3,_⟩
  ·rw[hl]at hc
   exact ((zIc hc ho).2.1 h2).1
  omega
 ·intro n0 n1 n2
  rcases hk with ⟨ho,hl⟩|⟨h3,h13,hlen,_⟩
  ·omega
  rw[hlen];exact zJr h3 h13
 intro h6 hkn
 rcases hk with ⟨ho,hl⟩|⟨h3,h13,hlen,acc,hacc,hcc⟩
 ·omega
 have hl3:t.args.length=3:=by rw[hlen,h6];rfl
 rw[hcc]at hc
 have e0:=hacc 0 t11
 have e1:=hacc 1 t11
 rw[List.getD_eq_getElem?_getD]at e0 e1
 have e1':acc[1]?.getD 0=(c (t.args.getD 1 dF)).1:=e1
 have e0':acc[0]?.getD 0=(c (t.args.getD 0 dF)).1:=e0
 have q:=(zFv h6 (by rw[e1'];have:=hT _ (zK (l:=t.args) (i:=1) t11) (ha 1 t11);omega) hc).1
 exact hB _ (zK t11) (ha 0 t11) (by rw[<-e0',q]) hkn
theorem zVm (m:Mch) (hm:m.cells.length<=9223372036854775807):∀(k:Nat) (t:Tm),Yd k t->(ja k t).2=0->nod k t<=60->GC Tryz.prog 217 [mcG m,Qu k t] (.tup [ceG (VG m k t).1,qq (VG m k t).2]):=by
 intro k
 induction k with
 |zero=>
  intro t ht hc _
  have ha:t.args= []:=ht
  exact zHi 0 m t (fun _=>(dF,[])) (fun _=>(0,0)) (fun j e=>by omega) ht hm hc (fun a h=>by rw[ha]at h;cases h) (fun a h=>by rw[ha]at h;cases h) (by rw[ha];simp)
 |succ k ih=>
  intro t ht hc hn
  have hn':1+(t.args.map (nod k)).sum<=60:=hn
  have hfl:=zIk (g:=VG m k) (N:=nod k) t.args fun a ha=>zDq m k a (ht.2 a ha)
  refine zHi (k+1) m t (VG m k) (ja k) (fun j e i hi=> ?_) ht hm hc (fun a ha h1 h2=>zVp m k a (ht.2 a ha) h1 h2) (fun a ha h1=>zIt k a (ht.2 a ha) h1) t11
  cases e
  have h1:=(uw (show (yk (ja k) t).2=0 from hc)).1 i hi
  have h2:=zUy (N:=nod k) (zK (l:=t.args) (i:=i) hi)
  exact ih _ (ht.2 _ (zK hi)) h1 t11
theorem ZBg (k:Nat) (m:Mch) (t:Tm) (ht:Yd k t) (hm:m.cells.length<=9223372036854775807) (hc:(ja k t).2=0) (h60:¬60<Qj k t 1):GC Tryz.prog 217 [mcG m,Qu k t] (.tup [ceG (VG m k t).1,qq (VG m k t).2]):=by
 have h:=(zWu k t 1 ht t11 t11).2.2 t11
 exact zVm m hm k t ht hc t11
def QT (k:Nat) (t:Tm):Int×Int:=if 60<(Qj k t 1)then (0,6)else ((ja k t).1,(ja k t).2)
theorem Un (k:Nat) (t:Tm) (ht:Yd k t):GC Tryz.prog 216 [Qu k t] (.tup [iG ((QT k t).1),iG ((QT k t).2)]):=by
 refine zA Tryz.func216 ?_
 refine gE [1,2,3] ?_
 refine gR [.call (zEp k t 1 t12)] [1,2,3,6] ?_
 refine zB ?_ ?_<;>intro c1<;>try simp only[toN]at c1
 ·refine gE [1,2,3] ?_
  refine gT ?_
  rw[QT,iP c1];rfl
 refine gR [.call (zTn k t t12)] [2,3] ?_
 refine gT ?_
 rw[QT,iQ c1];rfl
theorem zBz {k:Nat} {t:Tm} (h:(QT k t).2=0):¬60<Qj k t 1/\QT k t=ja k t:=by
 unfold QT at h⊢
 split at h
 ·cases h
 rename_i hc;rw[iQ hc];exact ⟨hc,rfl⟩
def zPd (k:Nat) (m:Mch) (t:Tm):Cel×List Int:=VG m k t
theorem zVk (k:Nat) (m:Mch) (t:Tm) (ht:Yd k t) (hm:m.cells.length<=9223372036854775807) (hc:(QT k t).2=0):GC Tryz.prog 217 [mcG m,Qu k t] (.tup [ceG (zPd k m t).1,qq (zPd k m t).2]):=ZBg k m t ht hm (by rw[<-(zBz hc).2];exact hc) (zBz hc).1
def Wy (k:Nat) (t:Tm) (cells:List Cel):Cel:=if ((QT k t).2)=0 then (zPd k (⟨cells⟩:Mch) t).1 else ⟨false,0⟩
theorem zYp (k:Nat) (t:Tm) (cells:List Cel) (ht:Yd k t) (hm:cells.length<=9223372036854775807):GC Tryz.prog 179 [Qu k t,.d (.row dF ceC cells)] (ceG (Wy k t cells)):=by
 refine zA Tryz.func179 ?_
 refine gE [1,2,4] ?_
 refine gR [.call (Un k t t12)] [1,2,4,6] ?_
 refine gE [1,2,4,15] ?_
 refine zQ ?_ ?_<;>intro c1<;>try simp only[toN]at c1
 ·refine gE [1,2,4] ?_
  refine gT ?_
  rw[Wy,iQ c1];rfl
 refine gR [.call (zVk k (⟨cells⟩:Mch) t ht hm t12)] [4,7] ?_
 refine gE [4] ?_
 refine gT ?_
 rw[Wy,iP c1];rfl
structure FitO (o:Od):Prop where
 ch:o.bL.length<=1000
 ru:o.rules.length<=1000
 tm:∀x,x∈o.rules->Yd Dep.d x.term
def Yy (o:Od) (ask:Int):Tm×Int:=if (!(JR ask).2)=true then (⟨0,0,[]⟩,1)else if (zR (fun y=>vn y ask) o.rules 0)<0 then (⟨0,0,[]⟩,4)else if (bif (!decide (((QT Dep.d ((o.rules.getD ((zR (fun y=>vn y ask) o.rules 0).toNat) dF).term)).2)=0))then true else (!decide (((QT Dep.d ((o.rules.getD ((zR (fun y=>vn y ask) o.rules 0).toNat) dF).term)).1)=((JR ask).1))))=true then (⟨0,0,[]⟩,11)else ((o.rules.getD ((zR (fun y=>vn y ask) o.rules 0).toNat) dF).term,0)
theorem zPz (o:Od) (ask:Int) (ho:FitO o):GC Tryz.prog 178 [odG o,iG ask] (.tup [Qu Dep.d ((Yy o ask).1),iG ((Yy o ask).2)]):=by
 have hl:=ho.ru
 refine zA Tryz.func178 ?_
 refine gE [2,3,4,5] ?_
 refine gR [.call (Xq ask)] [2,3,4,5,6,7] ?_
 refine gE [2,3,4,5,6,18] ?_
 refine zF ?_ ?_<;>intro c1<;>try simp only[bb,toN]at c1
 ·refine gE [2,3,4,5,6] ?_
  refine Zq env ?_
  rw[Yy,iP (by (try simp only[bb,toN]);exact c1)];exact Ent.tup ⟨Ent.agg ⟨Ent.refl _,Ent.refl _,Ent.nil,trivial⟩,Ent.refl _,trivial⟩
 refine ZA 1 ?_
 refine gR [.call (Kc o.rules t11 ask)] [2,4,5,6,8] ?_
 refine gE [2,4,5,6,8,25] ?_
 refine zB ?_ ?_<;>intro c2<;>try simp only[toN]at c2
 ·refine gE [2,4,5,6,8] ?_
  refine Zq env ?_
  rw[Yy,iN (by (try simp only[bb,toN]);exact c1),iP c2];exact Ent.tup ⟨Ent.agg ⟨Ent.refl _,Ent.refl _,Ent.nil,trivial⟩,Ent.refl _,trivial⟩
 have hi:=ui (fun y=>vn y ask) o.rules 0
 have ht:=ho.tm _ (zK (l:=o.rules) (i:=(zR (fun y=>vn y ask) o.rules 0).toNat) t11)
 refine gE [4,5,6,9] ?_
 refine gR [.call (Un Dep.d ((o.rules.getD ((zR (fun y=>vn y ask) o.rules 0).toNat) dF).term) t12)] [4,5,6,9,10,11] ?_
 refine gE [4,5,9,44] ?_
 refine zF ?_ ?_<;>intro c3<;>try simp only[bb,toN]at c3
 ·refine gE [4,5,9] ?_
  refine Zq env ?_
  rw[Yy,iN (by (try simp only[bb,toN]);exact c1),iQ c2,iP (by (try simp only[bb,toN]);exact c3)];exact Ent.tup ⟨Ent.agg ⟨Ent.refl _,Ent.refl _,Ent.nil,trivial⟩,Ent.refl _,trivial⟩
 refine gE [4,5] ?_
 refine gT ?_
 rw[Yy,iN (by (try simp only[bb,toN]);exact c1),iQ c2,iN (by (try simp only[bb,toN]);exact c3)];rfl
theorem zMu {o:Od} (ho:FitO o) {ask:Int} (h:(Yy o ask).2=0):Yd Dep.d (Yy o ask).1:=by
 unfold Yy at h⊢
 split at h
 ·cases h
 rename_i h1
 rw[iQ h1]
 split at h
 ·cases h
 rename_i h2
 rw[iQ h2]
 split at h
 ·cases h
 rename_i h3
 rw[iQ h3]
 have hi:=ui (fun y=>vn y ask) o.rules 0
 exact ho.tm _ (zK t11)
structure RR (r:Rlm):Prop where
 right:RightR r
 fo:∀o,o∈r.bD->FitO o
theorem XI:∀(n:Nat) (l:List Int),l.Nodup->(∀x,x∈l->0<=x/\x<n)->l.length<=n:=by
 intro n
 induction n with
 |zero=>
  intro l _ h
  cases l with
  |nil=>simp
  |cons a l=>have:=h a t27;omega
 |succ n ih=>
  intro l hn h
  by_cases hm:(n:Int)∈l
  ·have h1:=ih (l.erase n) (hn.erase _) fun x hx=>by
    have hx2:=(List.Nodup.mem_erase_iff hn).1 hx
    have:=h x hx2.2
    have:=hx2.1
    omega
   rw[List.length_erase_of_mem hm]at h1
   omega
  have h1:=ih l hn fun x hx=>by
   have:=h x hx
   have:x≠(n:Int):=fun e=>hm (e▸hx)
   omega
  omega
def VK (r:Rlm) (ask:Int) (places:List Int):Nat->List Int->List Int×Int
 |0,p=>(p,12)
 |n+1,p=>if (Zu r (p.getD (p.length-1) dF) ask places).1=p.getD (p.length-1) dF then (p,0)else
  if (bif !(Zu r (p.getD (p.length-1) dF) ask places).2 then true else bif qv p (Zu r (p.getD (p.length-1) dF) ask places).1 then (r.bD.getD (Zu r (p.getD (p.length-1) dF) ask places).1.toNat dF).acc else false)=true then (p++ [(Zu r (p.getD (p.length-1) dF) ask places).1],0)else
  if qv p (Zu r (p.getD (p.length-1) dF) ask places).1=true then (p++ [(Zu r (p.getD (p.length-1) dF) ask places).1],12)else VK r ask places n (p++ [(Zu r (p.getD (p.length-1) dF) ask places).1])
def Qx (r:Rlm) (bK ask:Int) (places:List Int):List Int×Int:=if (bif !Wu r bK ask places then true else !decide (places.getD 0 dF=bK))=true then ([],1)else VK r ask places (r.bD.length+1) [bK]
structure LwI (r:Rlm) (p:List Int):Prop where
 pos:1<=p.length
 nd:p.Nodup
 rng:∀x,x∈p->0<=x/\x<r.bD.length
theorem LwI.len {r:Rlm} {p:List Int} (h:LwI r p):p.length<=r.bD.length:=XI _ _ h.nd h.rng
theorem zYk {r:Rlm} {o ask:Int} {places:List Int} (hf:∀x,x∈places->0<=x/\x<r.bD.length) (ho:0<=o/\o<r.bD.length) (h5:places.length=5) (hq:0<=ask/\ask<22):Wu r o ask places=true:=by
 unfold Wu
 rw[iQ t30]
 rw[Bool.not_eq_true',List.any_eq_false]
 intro x hx
 have:=hf x hx
 unfold UV
 rw[Bool.not_eq_true]
 simp only[bb]
 omega
theorem zEx {r:Rlm} {o ask:Int} {places:List Int} (hf:∀x,x∈places->0<=x/\x<r.bD.length) (ho:0<=o/\o<r.bD.length) (h5:places.length=5) (hR:RightR r):∀(n k:Nat),(r.bD.getD o.toNat dF).bL.length-k=n->0<=(Yl r o ask places k).1/\(Yl r o ask places k).1<r.bD.length:=by
 intro n
 induction n with
 |zero=>intro k h;rw[Yl,iQ t11];exact ho
 |succ n ih=>
  intro k h
  rw[Yl,iP t11]
  split
  ·have hb:=hR.by_ _ (zK (l:=r.bD) (i:=o.toNat) t11) _ (zK (i:=k) t11)
   exact hf _ (zK t11)
  exact ih _ t11
theorem XM {r:Rlm} {o ask:Int} {places:List Int} (hf:∀x,x∈places->0<=x/\x<r.bD.length) (ho:0<=o/\o<r.bD.length) (h5:places.length=5) (hR:RightR r) (hq:0<=ask/\ask<22):0<=(Zu r o ask places).1/\(Zu r o ask places).1<r.bD.length:=by
 unfold Zu
 rw[iQ (by rw[zYk hf ho h5 hq];simp)]
 exact zEx hf ho h5 hR _ 0 rfl
theorem LwI.next {r:Rlm} {p:List Int} (h:LwI r p) {x:Int} (hx:0<=x/\x<r.bD.length) (hn:qv p x=false):LwI r (p++ [x]):=by
 refine ⟨by simp,?_,fun y hy=> ?_⟩
 ·rw[List.nodup_append]
  refine ⟨h.nd,by simp,fun a ha b hb e=> ?_⟩
  simp only[List.mem_singleton]at hb
  subst hb e
  unfold qv at hn
  rw[List.any_eq_false]at hn
  exact hn a ha t27
 rcases List.mem_append.1 hy with hy|hy
 ·exact h.rng y hy
 simp only[List.mem_singleton]at hy;subst hy;exact hx
theorem zId {r:Rlm} {x:Int} (h:0<=x/\x<r.bD.length):LwI r [x]:=⟨by simp,by simp,fun y hy=>by simp only[List.mem_singleton]at hy;subst hy;exact h⟩
theorem ZCy (r:Rlm) (hR:RightR r) (bK ask:Int) (places:List Int) (hp:places.length<=9223372036854775807):GC Tryz.prog 177 [rlG r,iG bK,iG ask,qq places] (.tup [qq (Qx r bK ask places).1,iG (Qx r bK ask places).2]):=by
 have hr:=hR.fit
 have h1:=hr.bD
 refine zA Tryz.func177 ?_
 refine gE [1,2,3,4,8,9] ?_
 refine gR [.call (zIm r bK ask places hr hp)] [1,2,3,4,8,9,27] ?_ (hp:=(by simp only[zC,bb,toN];repeat' first|exact trivial|exact zH.refl _|exact rfl|(rename_i h;have:=Ko h;omega)|omega|apply And.intro|intro _))
 refine zF ?_ ?_<;>intro c1<;>try simp only[bb,toN]at c1
 ·refine gE [1,2,3,4,8,9] ?_
  refine Zq env ?_
  rw[Qx,iP (by (try simp only[bb,toN]);exact c1)];exact Ent.tup ⟨Ent.nil,Ent.refl _,trivial⟩
 have hf:=Ko c1.1
 refine gR [.el dF inC [bK]] [2,3,4,8,9,10] ?_
 refine zI (α:=List Int×Nat) (fun x=>LwI r x.1/\VK r ask places (r.bD.length+1) [bK]=VK r ask places (r.bD.length+2-x.1.length) x.1/\x.2<=x.1.length) (fun x=>[(10,.sl 1 1 0 x.1.length)]) (fun x=>[(1,some (.row 3 1 dF inC x.1 x.2))]) (fun x=>r.bD.length+2-x.1.length) ([bK],0) ⟨zId ⟨hf.1,hf.2.1⟩,by simp,by simp⟩ ?_
 rintro ⟨p,z⟩ ⟨hL,he,hz⟩
 dsimp only at*
 have hp1:=hL.pos
 have hln:=hL.len
 refine gE [2,3,4,8,9,10,11] ?_
 simp only[(show (p.length:Int)-1=((p.length-1:Nat):Int)by have:=hL.pos;omega),toN]
 have hla:=hL.rng _ (zK (l:=p) (i:=p.length-1) t11)
 have hnx:=XM (ask:=ask) hf.2.2.2.2.2 hla hf.2.2.2.2.1 hR ⟨hf.2.2.1,hf.2.2.2.1⟩
 refine gR [.call (zRd r (p.getD (p.length-1) dF) ask places hR hp)] [2,3,4,8,9,10,11,12,13] ?_
 refine gE [2,3,4,8,9,10,12,13,46] ?_
 refine zB ?_ ?_<;>intro c2<;>try simp only[toN]at c2
 ·refine gE [2,3,4,8,9,10,12,13] ?_
  refine gT ?_
  have eN:r.bD.length+2-p.length=(r.bD.length+1-p.length)+1:=by omega
  rw[Qx,iN (by (try simp only[bb,toN]);exact c1),he,eN,VK,iP c2];rfl
 refine gR [.call (zi p (by have:=hL.len;omega) (Zu r (p.getD (p.length-1) dF) ask places).1)] [2,3,4,8,9,10,12,13,14] ?_
 refine gU [.el dF inC [(Zu r (p.getD (p.length-1) dF) ask places).1],.el dF inC (p++ [(Zu r (p.getD (p.length-1) dF) ask places).1])] [2,3,4,8,9,10,12,13,14] ?_
 refine gE [2,3,4,8,9,10,14,55] ?_
 refine zF ?_ ?_<;>intro c3<;>try simp only[bb,toN]at c3
 ·refine gE [2,3,4,8,9,10] ?_
  refine gT ?_
  have eN:r.bD.length+2-p.length=(r.bD.length+1-p.length)+1:=by omega
  rw[Qx,iN (by (try simp only[bb,toN]);exact c1),he,eN,VK,iQ c2,iP (by (try simp only[bb,toN]);exact c3)];rfl
 refine gE [2,3,4,8,9,10,70] ?_
 refine zF ?_ ?_<;>intro c4<;>try simp only[bb,toN]at c4
 ·refine gE [2,3,4,8,9,10] ?_
  refine gT ?_
  have eN:r.bD.length+2-p.length=(r.bD.length+1-p.length)+1:=by omega
  rw[Qx,iN (by (try simp only[bb,toN]);exact c1),he,eN,VK,iQ c2,iN (by (try simp only[bb,toN]);exact c3),iP c4];rfl
 refine zD ((p++ [(Zu r (p.getD (p.length-1) dF) ask places).1],p.length)) ?_ (hm:=by have:=hL.len;simp only[List.length_append,List.length_cons,List.length_nil];omega)
 have eN:r.bD.length+2-p.length=(r.bD.length+1-p.length)+1:=by omega
 refine ⟨hL.next hnx c4,?_,by simp⟩
 rw[he,eN,VK,iQ c2,iN (by (try simp only[bb,toN]);exact c3),iQ (by rw[c4];simp)]
 rw[List.length_append,List.length_cons,List.length_nil]
 rw[show r.bD.length+2-(p.length+(0+1))=r.bD.length+1-p.length by omega]
end Go.Gh
