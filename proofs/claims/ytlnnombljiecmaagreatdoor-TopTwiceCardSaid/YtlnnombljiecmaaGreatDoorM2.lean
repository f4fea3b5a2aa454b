/- Walks by the logic of calls, and plain laws (several texts in one). -/
import Derived.Test.YtlnnombljiecmaaGreatDoorM1
import Derived.Test.YtlnnombljiecmaaGreatDoorGh4
import Derived.Shelf.Spec.SlicesGrow
namespace Go.Gh
open Go Go.Proofs
set_option maxRecDepth 1000000
set_option maxHeartbeats 2000000
set_option linter.unusedSimpArgs false
set_option linter.unusedVariables false
set_option linter.unnecessarySimpa false
set_option linter.unusedSectionVars false
variable [Dep]
open Go.RowKit
def WR (i:Int) (n:Int):Bool:=(bif decide (0<=i)then decide (i<n)else false)
theorem wB (i:Int) (n:Int):GC Tryz.prog 29 [iG i,iG n] (bG (WR i n)):=by
 refine zA Tryz.func29 ?_
 refine gE [0,1,4] ?_
 refine gE [4] ?_
 refine gT ?_
 rw[WR];rfl
def JU (is_:Bool):Cel:=if is_=true then ⟨true,1⟩else ⟨true,0⟩
theorem HS (is_:Bool):GC Tryz.prog 240 [bG is_] (ceG (JU is_)):=by
 refine zA Tryz.func240 ?_
 refine gE [0,2] ?_
 refine gE [2,3] ?_
 refine zF ?_ ?_<;>intro c1<;>try simp only[bb,toN]at c1
 ·refine gE [2] ?_
  refine gT ?_
  rw[JU,iP (by (try simp only[bb,toN]);exact c1)];rfl
 refine gE [2] ?_
 refine gT ?_
 rw[JU,iN (by (try simp only[bb,toN]);exact c1)];rfl
def jC (f:Fil) (kind:Int) (at_:Int) (k1:Nat):Cel:=if k1<f.facts.length then if (bif decide (((f.facts.getD k1 dF).kind)=kind)then decide (((f.facts.getD k1 dF).at_)=at_)else false)=true then (JU (!decide (((f.facts.getD k1 dF).n)=0)))else jC f kind at_ (k1+1)else ⟨false,0⟩
termination_by f.facts.length-k1
def Zg (f:Fil) (kind:Int) (at_:Int):Cel:=jC f kind at_ 0
theorem Wz (f:Fil) (kind:Int) (at_:Int) (hl:f.facts.length<=9223372036854775807):GC Tryz.prog 241 [fiG f,iG kind,iG at_] (ceG (Zg f kind at_)):=by
 refine zA Tryz.func241 ?_
 refine gE [1,2,3,6] ?_
 refine gE [1,2,6,10,11,12] ?_
 refine zI (α:=Nat) (fun x=>x<=f.facts.length/\jC f kind at_ 0=jC f kind at_ x) (fun x=>[(12,iG x)]) (fun x=>[]) (fun x=>f.facts.length-x) 0 ⟨by (try simp only[]);omega,rfl⟩ ?_ (hp:=t40)
 rintro k1 ⟨hi1,he⟩
 refine gE [1,2,6,10,11,12,13] ?_
 refine zB ?_ ?_<;>intro c1<;>try simp only[toN]at c1
 ·refine gE [1,2,6,8,10,11,12] ?_
  refine gE [1,2,6,8,10,11,12,25] ?_
  refine zF ?_ ?_<;>intro c2<;>try simp only[bb,toN]at c2
  ·refine gR [.call (HS (!decide (((f.facts.getD k1 dF).n)=0)))] [1,2,6,10,11,12] ?_
   refine gT ?_
   rw[Zg,he,jC,iP t11,iP (by (try simp only[bb,toN]);exact c2)];rfl
  refine gE [1,2,6,10,11,12] ?_
  refine zD (k1+1) ?_ (hp:=t40)
  refine ⟨by (try simp only[]);omega,he.trans ?_⟩
  rw[jC,iP t11,iN (by (try simp only[bb,toN]);exact c2)]
  try rfl
 refine gE [6] ?_
 refine gT ?_
 rw[Zg,he,jC,iQ t11];rfl
open Go.IntKind (i64)
theorem inV_t {i n:Int} (h:inV i n=true):0<=i/\i<n:=by simpa [inV]using h
def zk (r:Rlm) (city:Int):Int:=if (!(inV city (r.bB.length:Int)))=true then (-1)else (r.bB.getD city.toNat dF).ord
theorem YP (r:Rlm) (city:Int) (hr:FitR r):GC Tryz.prog 208 [rlG r,iG city] (iG (zk r city)):=by
 have h1:=hr.bB;have h2:=hr.bE
 refine zA Tryz.func208 ?_
 refine gE [1,2,4] ?_
 refine gR [.call (QQ city (r.bB.length:Int))] [1,2,4,10] ?_
 refine zF ?_ ?_<;>intro c1<;>try simp only[bb,toN]at c1
 ·refine gE [1,2,4] ?_
  refine gT ?_
  rw[zk,iP (by (try simp only[bb,toN]);exact c1)];rfl
 have hc:=inV_t c1
 refine gE [4] ?_
 refine gT ?_
 rw[zk,iN (by (try simp only[bb,toN]);exact c1)];rfl
def wY (r:Rlm) (fr:Int) (dst:Int) (k1:Nat):Int×Int:=if k1<r.bE.length then if (bif decide (((r.bE.getD k1 dF).fr)=fr)then decide (((r.bE.getD k1 dF).dst)=dst)else false)=true then ((r.bE.getD k1 dF).days,0)else wY r fr dst (k1+1)else (0,4)
termination_by r.bE.length-k1
def HQ (r:Rlm) (fr:Int) (dst:Int):Int×Int:=wY r fr dst 0
theorem Uw (r:Rlm) (fr:Int) (dst:Int) (hr:FitR r):GC Tryz.prog 70 [rlG r,iG fr,iG dst] (.tup [iG ((HQ r fr dst).1),iG ((HQ r fr dst).2)]):=by
 have h1:=hr.bB;have h2:=hr.bE
 refine zA Tryz.func70 ?_
 refine gE [1,2,3,6,7] ?_
 refine gE [1,2,6,7,11,12,13] ?_
 refine zI (α:=Nat) (fun x=>x<=r.bE.length/\wY r fr dst 0=wY r fr dst x) (fun x=>[(13,iG x)]) (fun x=>[]) (fun x=>r.bE.length-x) 0 ⟨by (try simp only[]);omega,rfl⟩ ?_ (hp:=t40)
 rintro k1 ⟨hi1,he⟩
 refine gE [1,2,6,7,11,12,13,14] ?_
 refine zB ?_ ?_<;>intro c1<;>try simp only[toN]at c1
 ·refine gE [1,2,6,7,9,11,12,13] ?_
  refine gE [1,2,6,7,9,11,12,13,26] ?_
  refine zF ?_ ?_<;>intro c2<;>try simp only[bb,toN]at c2
  ·refine gE [1,2,6,7,11,12,13] ?_
   refine gT ?_
   rw[HQ,he,wY,iP t11,iP (by (try simp only[bb,toN]);exact c2)];rfl
  refine gE [1,2,6,7,11,12,13] ?_
  refine zD (k1+1) ?_ (hp:=t40)
  refine ⟨by (try simp only[]);omega,he.trans ?_⟩
  rw[wY,iP t11,iN (by (try simp only[bb,toN]);exact c2)]
  try rfl
 refine gE [6,7] ?_
 refine gT ?_
 rw[HQ,he,wY,iQ t11];rfl
def jD (f:Fil) (day:Int) (a6_1:Int) (a7_1:Bool) (k1:Nat):Int×Bool:=if k1<f.acts.length then if (bif (bif (bif (!decide (((f.acts.getD k1 dF).kind)=1))then (!decide (((f.acts.getD k1 dF).kind)=3))else false)then (!decide (((f.acts.getD k1 dF).kind)=4))else false)then true else decide (day<((f.acts.getD k1 dF).day)))=true then jD f day a6_1 a7_1 (k1+1)else if (bif (!a7_1)then true else decide (((f.acts.getD k1 dF).day)<a6_1))=true then jD f day ((f.acts.getD k1 dF).day) true (k1+1)else jD f day a6_1 a7_1 (k1+1)else (a6_1,a7_1)
termination_by f.acts.length-k1
def zX (f:Fil) (day:Int):Int×Bool:=jD f day 0 false 0
theorem zZh (f:Fil) (day:Int) (hl:f.acts.length<=9223372036854775807):GC Tryz.prog 46 [fiG f,iG day] (.tup [iG ((zX f day).1),bG ((zX f day).2)]):=by
 refine zA Tryz.func46 ?_
 refine gE [1,2,4,5] ?_
 refine gE [1,2,4,5,6,7] ?_
 refine gE [1,4,5,6,7,11,12,13] ?_
 refine zI (α:=Int×Bool×Nat) (fun x=>x.2.2<=f.acts.length/\jD f day 0 false 0=jD f day x.1 x.2.1 x.2.2) (fun x=>[(6,iG x.1),(7,bG x.2.1),(13,iG x.2.2)]) (fun x=>[]) (fun x=>f.acts.length-x.2.2) (0,false,0) ⟨by (try simp only[]);omega,rfl⟩ ?_ (hp:=t40)
 rintro ⟨a6_1,a7_1,k1⟩ ⟨hi1,he⟩
 dsimp only at*
 refine gE [1,4,5,6,7,11,12,13,14] ?_
 refine zB ?_ ?_<;>intro c1<;>try simp only[toN]at c1
 ·refine gE [1,4,5,6,7,9,11,12,13] ?_
  refine gE [1,4,5,6,7,9,11,12,13,35] ?_
  refine zF ?_ ?_<;>intro c2<;>try simp only[bb,toN]at c2
  ·refine gE [1,4,5,6,7,11,12,13] ?_
   refine zD ((a6_1,a7_1,k1+1)) ?_ (hp:=t40) (hm:=by dsimp only;omega)
   refine ⟨by (try simp only[]);omega,he.trans ?_⟩
   rw[jD,iP t11,iP (by (try simp only[bb,toN]);exact c2)]
   try rfl
  refine gE [1,4,5,6,7,9,11,12,13,43] ?_
  refine zF ?_ ?_<;>intro c3<;>try simp only[bb,toN]at c3
  ·refine gE [1,4,5,6,7,11,12,13] ?_
   refine gE [1,4,5,6,7,11,12,13] ?_
   refine zD (((f.acts.getD k1 dF).day,true,k1+1)) ?_ (hp:=t40) (hm:=by dsimp only;omega)
   refine ⟨by (try simp only[]);omega,he.trans ?_⟩
   rw[jD,iP t11,iN (by (try simp only[bb,toN]);exact c2),iP (by (try simp only[bb,toN]);exact c3)]
   try rfl
  refine gE [1,4,5,6,7,11,12,13] ?_
  refine zD ((a6_1,a7_1,k1+1)) ?_ (hp:=t40) (hm:=by dsimp only;omega)
  refine ⟨by (try simp only[]);omega,he.trans ?_⟩
  rw[jD,iP t11,iN (by (try simp only[bb,toN]);exact c2),iN (by (try simp only[bb,toN]);exact c3)]
  try rfl
 refine gE [4,5] ?_
 refine gT ?_
 rw[zX,he,jD,iQ t11];rfl
def vX (before:Int) (flags:Int):Int:=if (bif (!decide ((YA .i64 flags 2)=0))then true else (!decide (before=0)))=true then 1 else if (YA .i64 flags 4)=0 then 0 else 2
theorem zJz (before:Int) (flags:Int):GC Tryz.prog 48 [iG before,iG flags] (iG (vX before flags)):=by
 refine zA Tryz.func48 ?_
 refine gE [0,1,4] ?_
 refine gE [1,4,5] ?_
 refine zF ?_ ?_<;>intro c1<;>try simp only[bb,toN]at c1
 ·refine gE [4] ?_
  refine gT ?_
  rw[vX,iP (by (try simp only[bb,toN]);exact c1)];rfl
 refine gE [4,13] ?_
 refine zP ?_ ?_<;>intro c2<;>try simp only[toN]at c2
 ·refine gE [4] ?_
  refine gT ?_
  rw[vX,iN (by (try simp only[bb,toN]);exact c1),iQ c2];rfl
 refine gE [4] ?_
 refine gT ?_
 rw[vX,iN (by (try simp only[bb,toN]);exact c1),iP c2];rfl
def WF (n:Int):Bool:=(bif decide (0<=n)then decide (n<=100000)else false)
theorem uh (n:Int):GC Tryz.prog 169 [iG n] (bG (WF n)):=by
 refine zA Tryz.func169 ?_
 refine gE [0,2] ?_
 refine gE [2] ?_
 refine gT ?_
 rw[WF];rfl
def wI (r:Rlm) (city:Int):Bool:=(bif decide (0<=city)then decide (city<(r.bB.length:Int))else false)
theorem XZ (r:Rlm) (city:Int) (hr:FitR r):GC Tryz.prog 168 [rlG r,iG city] (bG (wI r city)):=by
 have h1:=hr.bB;have h2:=hr.bE
 refine zA Tryz.func168 ?_
 refine gE [1,2,4] ?_
 refine gE [4] ?_
 refine gT ?_
 rw[wI];rfl
def KG (t:Tnr):Bool:=(bif decide (t.kind=0)then true else decide (t.kind=1))
theorem zKf (t:Tnr):GC Tryz.prog 170 [tnG t] (bG (KG t)):=by
 refine zA Tryz.func170 ?_
 refine gE [1,2] ?_
 refine gE [2] ?_
 refine gT ?_
 rw[KG];rfl
def QG (day:Int):Bool:=(bif decide (0<=day)then decide (day<=100000)else false)
theorem jZ (day:Int):GC Tryz.prog 125 [iG day] (bG (QG day)):=by
 refine zA Tryz.func125 ?_
 refine gE [0,2] ?_
 refine gE [2] ?_
 refine gT ?_
 rw[QG];rfl
def zb (day:Int):Int×Int×Int:=let v6:Int:=(i64.wrap (day+730425)).tmod 146097;let v2:Int:=i64.wrap ((i64.wrap ((i64.wrap ((i64.wrap (v6-(i64.wrap (v6.tdiv 1460))))+(i64.wrap (v6.tdiv 36524))))-(i64.wrap (v6.tdiv 146096)))).tdiv 365);let v1:Int:=i64.wrap (v6-(i64.wrap ((i64.wrap ((i64.wrap (365*v2))+(i64.wrap (v2.tdiv 4))))-(i64.wrap (v2.tdiv 100)))));let v3:Int:=i64.wrap ((i64.wrap ((i64.wrap (5*v1))+2)).tdiv 153);let v4:Int:=(i64.wrap (v1-(i64.wrap ((i64.wrap ((i64.wrap (153*v3))+2)).tdiv 5))))+1;let v5:Int:=v2+(i64.wrap (400*(i64.wrap ((i64.wrap (day+730425)).tdiv 146097))));let v7:Int:=i64.wrap (v3+3);if 12<v7 then if (i64.wrap (v7-12))<3 then (i64.wrap ((i64.wrap v5)+1),i64.wrap (v7-12),i64.wrap v4)else (i64.wrap v5,i64.wrap (v7-12),i64.wrap v4)else if v7<3 then (i64.wrap ((i64.wrap v5)+1),i64.wrap (v3+3),i64.wrap v4)else (i64.wrap v5,i64.wrap (v3+3),i64.wrap v4)
theorem UG (day:Int):GC Tryz.prog 126 [iG day] (.tup [iG ((zb day).1),iG ((zb day).2.1),iG ((zb day).2.2)]):=by
 refine zA Tryz.func126 ?_
 refine gE [0,2,3,4] ?_
 refine zG env true [] [2,3,4,5] ?_
 refine zG env true [] [2,3,4,6,7] ?_
 refine zG env true [] [2,3,4,6,7,8] ?_
 refine zG env true [] [2,3,4,6,7,8] ?_
 refine zG env true [] [2,3,4,6,7,8,9] ?_
 refine zG env true [] [2,3,4,6,8,9] ?_
 refine zG env true [] [2,3,4,6,8] ?_
 refine gE [2,3,4,6,8,51] ?_
 refine zB ?_ ?_<;>intro c1<;>try simp only[toN]at c1
 ·refine zG env true [] [2,3,4,6,8] ?_
  refine zG env true [] [2,3,4] ?_
  refine gE [2,3,4,59] ?_
  refine zB ?_ ?_<;>intro c2<;>try simp only[toN]at c2
  ·refine zG env true [] [2,3,4] ?_
   refine gE [2,3,4] ?_
   refine gT ?_
   rw[zb,iP c1,iP c2];rfl
  refine gE [2,3,4] ?_
  refine gT ?_
  rw[zb,iP c1,iQ c2];rfl
 refine zG env true [] [2,3,4] ?_
 refine gE [2,3,4,59] ?_
 refine zB ?_ ?_<;>intro c3<;>try simp only[toN]at c3
 ·refine zG env true [] [2,3,4] ?_
  refine gE [2,3,4] ?_
  refine gT ?_
  rw[zb,iQ c1,iP c3];rfl
 refine gE [2,3,4] ?_
 refine gT ?_
 rw[zb,iQ c1,iQ c3];rfl
def Qj (year:Int) (month:Int) (dom:Int):Int:=if month<3 then i64.wrap ((i64.wrap ((i64.wrap ((i64.wrap ((i64.wrap ((i64.wrap ((i64.wrap ((i64.wrap (365*(i64.wrap (year-1))))+(i64.wrap ((i64.wrap (year-1)).tdiv 4))))-(i64.wrap ((i64.wrap (year-1)).tdiv 100))))+(i64.wrap ((i64.wrap (year-1)).tdiv 400))))+(i64.wrap ((i64.wrap ((i64.wrap (153*(i64.wrap ((i64.wrap (month+12))-3))))+2)).tdiv 5))))+dom))-1))-730425)else i64.wrap ((i64.wrap ((i64.wrap ((i64.wrap ((i64.wrap ((i64.wrap ((i64.wrap ((i64.wrap (365*year))+(i64.wrap (year.tdiv 4))))-(i64.wrap (year.tdiv 100))))+(i64.wrap (year.tdiv 400))))+(i64.wrap ((i64.wrap ((i64.wrap (153*(i64.wrap (month-3))))+2)).tdiv 5))))+dom))-1))-730425)
theorem WM (year:Int) (month:Int) (dom:Int):GC Tryz.prog 282 [iG year,iG month,iG dom] (iG (Qj year month dom)):=by
 refine zA Tryz.func282 ?_
 refine gE [0,1,2,6] ?_
 refine gE [0,1,2,6,8] ?_
 refine zB ?_ ?_<;>intro c1<;>try simp only[toN]at c1
 ·refine zG env true [] [0,1,2,6] ?_
  refine zG env true [] [6] ?_
  refine gT ?_
  rw[Qj,iP c1];rfl
 refine zG env true [] [6] ?_
 refine gT ?_
 rw[Qj,iQ c1];rfl
def jt (year:Int) (month:Int):Int:=if month=12 then 31 else i64.wrap ((Qj year (i64.wrap (month+1)) 1)-(Qj year month 1))
theorem UF (year:Int) (month:Int):GC Tryz.prog 265 [iG year,iG month] (iG (jt year month)):=by
 refine zA Tryz.func265 ?_
 refine gE [0,1,4] ?_
 refine gE [0,1,4,6] ?_
 refine zB ?_ ?_<;>intro c1<;>try simp only[toN]at c1
 ·refine gE [0,1,4] ?_
  refine gT ?_
  rw[jt,iP c1];rfl
 refine zG env true [.call (WM year (i64.wrap (month+1)) 1),.call (WM year month 1)] [4] ?_
 refine gT ?_
 rw[jt,iQ c1];rfl
def yX (day:Int):Int×Int×Int×Int:=if (!(QG day))=true then (0,0,0,3)else ((zb day).1,(zb day).2.1,(zb day).2.2,0)
theorem zUd (day:Int):GC Tryz.prog 78 [iG day] (.tup [iG ((yX day).1),iG ((yX day).2.1),iG ((yX day).2.2.1),iG ((yX day).2.2.2)]):=by
 refine zA Tryz.func78 ?_
 refine gE [0,2,3,4,5] ?_
 refine gR [.call (jZ day)] [0,2,3,4,5,8] ?_
 refine zF ?_ ?_<;>intro c1<;>try simp only[bb,toN]at c1
 ·refine gE [0,2,3,4,5] ?_
  refine gT ?_
  rw[yX,iP (by (try simp only[bb,toN]);exact c1)];rfl
 refine gR [.call (UG day)] [2,3,4,5] ?_
 refine gE [2,3,4,5] ?_
 refine gT ?_
 rw[yX,iN (by (try simp only[bb,toN]);exact c1)];rfl
def zGb (year:Int) (month:Int) (dom:Int):Int×Int:=if (bif (bif (bif (bif (bif decide (year<2000)then true else decide (2300<year))then true else decide (month<1))then true else decide (12<month))then true else decide (dom<1))then true else decide ((jt year month)<dom))=true then (0,3)else if (!(QG (Qj year month dom)))=true then (0,3)else ((Qj year month dom),0)
theorem zZy (year:Int) (month:Int) (dom:Int):GC Tryz.prog 264 [iG year,iG month,iG dom] (.tup [iG ((zGb year month dom).1),iG ((zGb year month dom).2)]):=by
 refine zA Tryz.func264 ?_
 refine gE [0,1,2,6,7] ?_
 refine gR [.call (UF year month)] [0,1,2,6,7,33] ?_
 refine zF ?_ ?_<;>intro c1<;>try simp only[bb,toN]at c1
 ·refine gE [0,1,2,6,7] ?_
  refine gT ?_
  rw[zGb,iP (by (try simp only[bb,toN]);exact c1)];rfl
 refine gR [.call (WM year month dom)] [6,7,8] ?_
 refine gR [.call (jZ (Qj year month dom))] [6,7,8,40] ?_
 refine zF ?_ ?_<;>intro c2<;>try simp only[bb,toN]at c2
 ·refine gE [6,7,8] ?_
  refine gT ?_
  rw[zGb,iN (by (try simp only[bb,toN]);exact c1),iP (by (try simp only[bb,toN]);exact c2)];rfl
 refine gE [6,7] ?_
 refine gT ?_
 rw[zGb,iN (by (try simp only[bb,toN]);exact c1),iN (by (try simp only[bb,toN]);exact c2)];rfl
def Xu (day:Int) (n:Int):Int×Int:=if (bif (bif (!(QG day))then true else decide (n<(-5000)))then true else decide (5000<n))=true then (0,3)else ((zGb (i64.wrap ((i64.wrap ((i64.wrap ((i64.wrap ((i64.wrap (12*((zb day).1)))+((zb day).2.1)))-1))+n)).tdiv 12)) (i64.wrap (((i64.wrap ((i64.wrap ((i64.wrap ((i64.wrap (12*((zb day).1)))+((zb day).2.1)))-1))+n)).tmod 12)+1)) (mnI ((zb day).2.2) (jt (i64.wrap ((i64.wrap ((i64.wrap ((i64.wrap ((i64.wrap (12*((zb day).1)))+((zb day).2.1)))-1))+n)).tdiv 12)) (i64.wrap (((i64.wrap ((i64.wrap ((i64.wrap ((i64.wrap (12*((zb day).1)))+((zb day).2.1)))-1))+n)).tmod 12)+1))))).1,(zGb (i64.wrap ((i64.wrap ((i64.wrap ((i64.wrap ((i64.wrap (12*((zb day).1)))+((zb day).2.1)))-1))+n)).tdiv 12)) (i64.wrap (((i64.wrap ((i64.wrap ((i64.wrap ((i64.wrap (12*((zb day).1)))+((zb day).2.1)))-1))+n)).tmod 12)+1)) (mnI ((zb day).2.2) (jt (i64.wrap ((i64.wrap ((i64.wrap ((i64.wrap ((i64.wrap (12*((zb day).1)))+((zb day).2.1)))-1))+n)).tdiv 12)) (i64.wrap (((i64.wrap ((i64.wrap ((i64.wrap ((i64.wrap (12*((zb day).1)))+((zb day).2.1)))-1))+n)).tmod 12)+1))))).2)
theorem ZAm (day:Int) (n:Int):GC Tryz.prog 236 [iG day,iG n] (.tup [iG ((Xu day n).1),iG ((Xu day n).2)]):=by
 refine zA Tryz.func236 ?_
 refine gE [0,1,4,5] ?_
 refine gR [.call (jZ day)] [0,1,4,5,20] ?_
 refine zF ?_ ?_<;>intro c1<;>try simp only[bb,toN]at c1
 ·refine gE [0,1,4,5] ?_
  refine gT ?_
  rw[Xu,iP (show (bif (bif (!(QG day))then true else decide (n<(-5000)))then true else decide (5000<n))=true by (try simp only[bb,toN]);exact c1)];rfl
 refine gR [.call (UG day)] [1,4,5,6,7,8] ?_
 refine zG env true [] [4,5,6,7,8,9] ?_
 refine zG env true [] [4,5,6,7,8] ?_
 refine gR [.call (UF (i64.wrap ((i64.wrap ((i64.wrap ((i64.wrap ((i64.wrap (12*((zb day).1)))+((zb day).2.1)))-1))+n)).tdiv 12)) (i64.wrap (((i64.wrap ((i64.wrap ((i64.wrap ((i64.wrap (12*((zb day).1)))+((zb day).2.1)))-1))+n)).tmod 12)+1))),.call (zZy (i64.wrap ((i64.wrap ((i64.wrap ((i64.wrap ((i64.wrap (12*((zb day).1)))+((zb day).2.1)))-1))+n)).tdiv 12)) (i64.wrap (((i64.wrap ((i64.wrap ((i64.wrap ((i64.wrap (12*((zb day).1)))+((zb day).2.1)))-1))+n)).tmod 12)+1)) (mnI ((zb day).2.2) (jt (i64.wrap ((i64.wrap ((i64.wrap ((i64.wrap ((i64.wrap (12*((zb day).1)))+((zb day).2.1)))-1))+n)).tdiv 12)) (i64.wrap (((i64.wrap ((i64.wrap ((i64.wrap ((i64.wrap (12*((zb day).1)))+((zb day).2.1)))-1))+n)).tmod 12)+1)))))] [4,5] ?_
 refine gT ?_
 rw[Xu,iQ (show ¬((bif (bif (!(QG day))then true else decide (n<(-5000)))then true else decide (5000<n))=true)by rw[Bool.not_eq_true];(try simp only[bb,toN]);exact c1)];rfl
def JE (day:Int) (t:Tnr):Int×Int:=if (bif decide (t.n<0)then true else decide (20000<t.n))=true then (0,3)else if t.unit=1 then ((Xu day t.n).1,(Xu day t.n).2)else (i64.wrap (day+t.n),0)
theorem zCz (day:Int) (t:Tnr):GC Tryz.prog 207 [iG day,tnG t] (.tup [iG ((JE day t).1),iG ((JE day t).2)]):=by
 refine zA Tryz.func207 ?_
 refine gE [0,3,4,5] ?_
 refine gE [0,3,4,5,13] ?_
 refine zF ?_ ?_<;>intro c1<;>try simp only[bb,toN]at c1
 ·refine gE [0,3,4,5] ?_
  refine gT ?_
  rw[JE,iP (by (try simp only[bb,toN]);exact c1)];rfl
 refine gE [0,3,4,5,16] ?_
 refine zB ?_ ?_<;>intro c2<;>try simp only[toN]at c2
 ·refine gR [.call (ZAm day t.n)] [0,3,4,5] ?_
  refine gT ?_
  rw[JE,iN (by (try simp only[bb,toN]);exact c1),iP c2];rfl
 refine zG env true [] [4,5] ?_
 refine gT ?_
 rw[JE,iN (by (try simp only[bb,toN]);exact c1),iQ c2];rfl
def Yt (r:Rlm) (b:Bil) (seen:Int):Int×Int:=if b.ten.kind=0 then (seen,0)else if b.ten.kind=1 then ((JE seen b.ten).1,(JE seen b.ten).2)else if b.ten.kind=2 then ((JE b.day b.ten).1,(JE b.day b.ten).2)else if b.ten.kind=4 then (i64.wrap (b.day+((HQ r b.city b.pay).1)),(HQ r b.city b.pay).2)else (b.ten.n,0)
theorem zOu (r:Rlm) (b:Bil) (seen:Int) (hr:FitR r):GC Tryz.prog 171 [rlG r,zCr b,iG seen] (.tup [iG ((Yt r b seen).1),iG ((Yt r b seen).2)]):=by
 have h1:=hr.bB;have h2:=hr.bE
 refine zA Tryz.func171 ?_
 refine gE [2,3,4,6,7] ?_
 refine gE [2,3,4,6,7,12] ?_
 refine gE [2,3,4,6,7,12,13] ?_
 refine zB ?_ ?_<;>intro c1<;>try simp only[toN]at c1
 ·refine gE [4,6,7] ?_
  refine gT ?_
  rw[Yt,iP c1];rfl
 refine gE [2,3,4,6,7,12,16] ?_
 refine zB ?_ ?_<;>intro c2<;>try simp only[toN]at c2
 ·refine gR [.call (zCz seen b.ten)] [4,6,7] ?_
  refine gT ?_
  rw[Yt,iQ c1,iP c2];rfl
 refine gE [3,4,6,7,12,24] ?_
 refine zB ?_ ?_<;>intro c3<;>try simp only[toN]at c3
 ·refine gR [.call (zCz b.day b.ten)] [4,6,7] ?_
  refine gT ?_
  rw[Yt,iQ c1,iQ c2,iP c3];rfl
 refine gE [3,4,6,7,33] ?_
 refine zB ?_ ?_<;>intro c4<;>try simp only[toN]at c4
 ·refine gR [.call (Uw r b.city b.pay hr)] [4,6,7,8,9] ?_
  refine zG env true [] [4,6,7] ?_
  refine gT ?_
  rw[Yt,iQ c1,iQ c2,iQ c3,iP c4];rfl
 refine gE [6,7] ?_
 refine gT ?_
 rw[Yt,iQ c1,iQ c2,iQ c3,iQ c4];rfl
def VO (v:Int):Int×Bool:=if (bif decide (v<0)then true else decide (19<v))=true then (0,false)else if v<7 then (0,true)else (1,true)
theorem zHk (v:Int):GC Tryz.prog 272 [iG v] (.tup [iG ((VO v).1),bG ((VO v).2)]):=by
 refine zA Tryz.func272 ?_
 refine gE [0,2,3] ?_
 refine gE [0,2,3,4] ?_
 refine zF ?_ ?_<;>intro c1<;>try simp only[bb,toN]at c1
 ·refine gE [2,3] ?_
  refine gT ?_
  rw[VO,iP (by (try simp only[bb,toN]);exact c1)];rfl
 refine gE [2,3,11] ?_
 refine zB ?_ ?_<;>intro c2<;>try simp only[toN]at c2
 ·refine gE [2,3] ?_
  refine gT ?_
  rw[VO,iN (by (try simp only[bb,toN]);exact c1),iP c2];rfl
 refine gE [2,3] ?_
 refine gT ?_
 rw[VO,iN (by (try simp only[bb,toN]);exact c1),iQ c2];rfl
def zNm (n:Int):Int:=mnI (mxI n (-1099511627776)) 1099511627776
theorem HA (n:Int):GC Tryz.prog 274 [iG n] (iG (zNm n)):=by
 refine zA Tryz.func274 ?_
 refine gE [0,2] ?_
 refine gE [2] ?_
 refine gT ?_
 rw[zNm];rfl
def ql (is_:Bool):Cel:=if is_=true then ⟨true,1⟩else ⟨true,0⟩
theorem qb (is_:Bool):GC Tryz.prog 273 [bG is_] (ceG (ql is_)):=by
 refine zA Tryz.func273 ?_
 refine gE [0,2] ?_
 refine gE [2,3] ?_
 refine zF ?_ ?_<;>intro c1<;>try simp only[bb,toN]at c1
 ·refine gE [2] ?_
  refine gT ?_
  rw[ql,iP (by (try simp only[bb,toN]);exact c1)];rfl
 refine gE [2] ?_
 refine gT ?_
 rw[ql,iN (by (try simp only[bb,toN]);exact c1)];rfl
def wS (s:Sad):Int:=if s.err=0 then if (!s.cell.known)=true then 2 else if s.cell.n=0 then 0 else 1 else 0
theorem vR (s:Sad):GC Tryz.prog 154 [sdG s] (iG (wS s)):=by
 refine zA Tryz.func154 ?_
 refine gE [1,2] ?_
 refine gE [1,2,3] ?_
 refine zP ?_ ?_<;>intro c1<;>try simp only[toN]at c1
 ·refine gE [2] ?_
  refine gT ?_
  rw[wS,iQ c1];rfl
 refine gE [1,2,7] ?_
 refine zF ?_ ?_<;>intro c2<;>try simp only[bb,toN]at c2
 ·refine gE [2] ?_
  refine gT ?_
  rw[wS,iP c1,iP (by (try simp only[bb,toN]);exact c2)];rfl
 refine gE [2,12] ?_
 refine zP ?_ ?_<;>intro c3<;>try simp only[toN]at c3
 ·refine gE [2] ?_
  refine gT ?_
  rw[wS,iP c1,iN (by (try simp only[bb,toN]);exact c2),iQ c3];rfl
 refine gE [2] ?_
 refine gT ?_
 rw[wS,iP c1,iN (by (try simp only[bb,toN]);exact c2),iP c3];rfl
def zAe (s:Sad):Int:=if (bif (!decide (s.err=0))then true else (!s.cell.known))=true then (-1)else s.cell.n
theorem zQo (s:Sad):GC Tryz.prog 134 [sdG s] (iG (zAe s)):=by
 refine zA Tryz.func134 ?_
 refine gE [1,2] ?_
 refine gE [1,2,11] ?_
 refine zF ?_ ?_<;>intro c1<;>try simp only[bb,toN]at c1
 ·refine gE [1,2] ?_
  refine gT ?_
  rw[zAe,iP (by (try simp only[bb,toN]);exact c1)];rfl
 refine gE [2] ?_
 refine gT ?_
 rw[zAe,iN (by (try simp only[bb,toN]);exact c1)];rfl
def Xq (a:Int) (b:Int):Int:=if (bif decide (a=0)then true else decide (b=0))=true then 0 else if (bif decide (a=2)then true else decide (b=2))=true then 2 else 1
theorem ZAe (a:Int) (b:Int):GC Tryz.prog 148 [iG a,iG b] (iG (Xq a b)):=by
 refine zA Tryz.func148 ?_
 refine gE [0,1,4] ?_
 refine gE [0,1,4,5] ?_
 refine zF ?_ ?_<;>intro c1<;>try simp only[bb,toN]at c1
 ·refine gE [4] ?_
  refine gT ?_
  rw[Xq,iP (by (try simp only[bb,toN]);exact c1)];rfl
 refine gE [4,12] ?_
 refine zF ?_ ?_<;>intro c2<;>try simp only[bb,toN]at c2
 ·refine gE [4] ?_
  refine gT ?_
  rw[Xq,iN (by (try simp only[bb,toN]);exact c1),iP (by (try simp only[bb,toN]);exact c2)];rfl
 refine gE [4] ?_
 refine gT ?_
 rw[Xq,iN (by (try simp only[bb,toN]);exact c1),iN (by (try simp only[bb,toN]);exact c2)];rfl
def zCb (a:Int) (b:Int):Int:=if (bif decide (a=1)then true else decide (b=1))=true then 1 else if (bif decide (a=2)then true else decide (b=2))=true then 2 else 0
theorem zZg (a:Int) (b:Int):GC Tryz.prog 187 [iG a,iG b] (iG (zCb a b)):=by
 refine zA Tryz.func187 ?_
 refine gE [0,1,4] ?_
 refine gE [0,1,4,5] ?_
 refine zF ?_ ?_<;>intro c1<;>try simp only[bb,toN]at c1
 ·refine gE [4] ?_
  refine gT ?_
  rw[zCb,iP (by (try simp only[bb,toN]);exact c1)];rfl
 refine gE [4,12] ?_
 refine zF ?_ ?_<;>intro c2<;>try simp only[bb,toN]at c2
 ·refine gE [4] ?_
  refine gT ?_
  rw[zCb,iN (by (try simp only[bb,toN]);exact c1),iP (by (try simp only[bb,toN]);exact c2)];rfl
 refine gE [4] ?_
 refine gT ?_
 rw[zCb,iN (by (try simp only[bb,toN]);exact c1),iN (by (try simp only[bb,toN]);exact c2)];rfl
def yJ (f:Fil) (i:Int) (a5_1:Int) (k1:Nat):Int:=if k1<f.bH.length then if ((f.bH.getD k1 dF).at_)<=i then yJ f i ((f.bH.getD k1 dF).sum) (k1+1)else yJ f i a5_1 (k1+1)else a5_1
termination_by f.bH.length-k1
def jh (f:Fil) (i:Int):Int:=yJ f i f.bill.sum 0
theorem zOw (f:Fil) (i:Int) (hl:f.bH.length<=9223372036854775807):GC Tryz.prog 220 [fiG f,iG i] (iG (jh f i)):=by
 refine zA Tryz.func220 ?_
 refine gE [1,2,4] ?_
 refine gE [1,2,4,5] ?_
 refine gE [1,4,5,12,13,14] ?_
 refine zI (α:=Int×Nat) (fun x=>x.2<=f.bH.length/\yJ f i f.bill.sum 0=yJ f i x.1 x.2) (fun x=>[(5,iG x.1),(14,iG x.2)]) (fun x=>[]) (fun x=>f.bH.length-x.2) (f.bill.sum,0) ⟨by (try simp only[]);omega,rfl⟩ ?_ (hp:=t40)
 rintro ⟨a5_1,k1⟩ ⟨hi1,he⟩
 dsimp only at*
 refine gE [1,4,5,12,13,14,15] ?_
 refine zB ?_ ?_<;>intro c1<;>try simp only[toN]at c1
 ·refine gE [1,4,5,7,12,13,14] ?_
  refine gE [1,4,5,7,12,13,14,21] ?_
  refine zB ?_ ?_<;>intro c2<;>try simp only[toN]at c2
  ·refine gE [1,4,5,12,13,14] ?_
   refine gE [1,4,5,12,13,14] ?_
   refine zD (((f.bH.getD k1 dF).sum,k1+1)) ?_ (hp:=t40) (hm:=by dsimp only;omega)
   refine ⟨by (try simp only[]);omega,he.trans ?_⟩
   rw[yJ,iP t11,iP c2]
   try rfl
  refine gE [1,4,5,12,13,14] ?_
  refine zD ((a5_1,k1+1)) ?_ (hp:=t40) (hm:=by dsimp only;omega)
  refine ⟨by (try simp only[]);omega,he.trans ?_⟩
  rw[yJ,iP t11,iQ c2]
  try rfl
 refine gE [4] ?_
 refine gT ?_
 rw[jh,he,yJ,iQ t11];rfl
def QM (rates:List Rt) (fr:Int) (dst:Int) (day:Int) (a9_1:Int) (k1:Nat):Int:=if k1<rates.length then if (bif (bif (bif decide (((rates.getD k1 dF).fr)=fr)then decide (((rates.getD k1 dF).dst)=dst)else false)then decide (((rates.getD k1 dF).since)<=day)else false)then (bif decide (a9_1<0)then true else decide (((rates.getD a9_1.toNat dF).since)<((rates.getD k1 dF).since)))else false)=true then QM rates fr dst day k1 (k1+1)else QM rates fr dst day a9_1 (k1+1)else a9_1
termination_by rates.length-k1
def qV (rates:List Rt) (fr:Int) (dst:Int) (day:Int):Int:=QM rates fr dst day (-1) 0
theorem zIe (rates:List Rt) (fr:Int) (dst:Int) (day:Int) (hl:rates.length<=9223372036854775807):GC Tryz.prog 229 [.d (.row dF rtC rates),iG fr,iG dst,iG day] (iG (qV rates fr dst day)):=by
 refine zA Tryz.func229 ?_
 refine gE [0,1,2,3,8] ?_
 refine gE [0,1,2,3,8,9] ?_
 refine gE [0,1,2,3,8,9,12,13,14] ?_
 refine zI (α:=Int×Nat) (fun x=>x.2<=rates.length/\QM rates fr dst day (-1) 0=QM rates fr dst day x.1 x.2/\(fun (a:Int) (k:Nat)=>a<k) x.1 x.2) (fun x=>[(9,iG x.1),(14,iG x.2)]) (fun x=>[]) (fun x=>rates.length-x.2) ((-1),0) ⟨by (try simp only[]);omega,rfl,by dsimp only;omega⟩ ?_ (hp:=t40)
 rintro ⟨a9_1,k1⟩ ⟨hi1,he,hv1⟩
 dsimp only at*
 refine gE [0,1,2,3,8,9,12,13,14,15] ?_
 refine zB ?_ ?_<;>intro c1<;>try simp only[toN]at c1
 ·refine gE [0,1,2,3,8,9,10,11,12,13,14] ?_
  refine gE [0,1,2,3,8,9,10,12,13,14,48] ?_
  refine zF ?_ ?_<;>intro c2<;>try simp only[bb,toN]at c2
  ·refine gE [0,1,2,3,8,9,12,13,14] ?_
   refine gE [0,1,2,3,8,9,12,13,14] ?_
   refine zD ((k1,k1+1)) ?_ (hp:=t40) (hm:=by dsimp only;omega)
   refine ⟨by (try simp only[]);omega,he.trans ?_,by dsimp only;omega⟩
   rw[QM,iP t11,iP (by (try simp only[bb,toN]);exact c2)]
   try rfl
  refine gE [0,1,2,3,8,9,12,13,14] ?_
  refine zD ((a9_1,k1+1)) ?_ (hp:=t40) (hm:=by dsimp only;omega)
  refine ⟨by (try simp only[]);omega,he.trans ?_,by dsimp only;omega⟩
  rw[QM,iP t11,iN (by (try simp only[bb,toN]);exact c2)]
  try rfl
 refine gE [8] ?_
 refine gT ?_
 rw[qV,he,QM,iQ t11];rfl
def qf (a:Act) (str:Bool) (c:Clm):Bool:=(bif decide (c.bI=a.to_)then true else (bif decide (c.bI=(-1))then str else false))
theorem zQz (a:Act) (str:Bool) (c:Clm):GC Tryz.prog 105 [acG a,bG str,clG c] (bG (qf a str c)):=by
 refine zA Tryz.func105 ?_
 refine gE [1,3,5,6] ?_
 refine gE [6] ?_
 refine gT ?_
 rw[qf];rfl
def zIs (a:Act) (c:Clm):Bool:=if a.at_=c.sign then (bif decide (a.kind=9)then true else (bif decide (a.kind=8)then (bif decide (c.bI=(-1))then true else decide (a.who=c.bI))else false))else false
theorem zYe (a:Act) (c:Clm):GC Tryz.prog 95 [acG a,clG c] (bG (zIs a c)):=by
 refine zA Tryz.func95 ?_
 refine gE [2,3,4] ?_
 refine gE [2,3,4,9] ?_
 refine zP ?_ ?_<;>intro c1<;>try simp only[toN]at c1
 ·refine gE [2,3,4] ?_
  refine gT ?_
  rw[zIs,iQ c1];rfl
 refine gE [4] ?_
 refine gT ?_
 rw[zIs,iP c1];rfl
def JL (f:Fil) (day:Int) (b2_1:List Sgn) (b2_3:List Act) (k3:Nat) (b2_2:List Alt) (k4:Nat) (b2_4:List Fct):Fil:=if k4<f.facts.length then if (WR ((f.facts.getD k4 dF).at_) (b2_1.length:Int))=true then JL f day b2_1 b2_3 k3 b2_2 (k4+1) (b2_4++ [(f.facts.getD k4 dF)])else JL f day b2_1 b2_3 k3 b2_2 (k4+1) b2_4 else ⟨f.bill,b2_1,b2_2,b2_3,b2_4⟩
termination_by f.facts.length-k4
def Jz (f:Fil) (day:Int) (b2_1:List Sgn) (b2_3:List Act) (k3:Nat) (b2_2:List Alt):Fil:=if k3<f.bH.length then if ((f.bH.getD k3 dF).at_)<=(b2_1.length:Int)then Jz f day b2_1 b2_3 (k3+1) (b2_2++ [(f.bH.getD k3 dF)])else Jz f day b2_1 b2_3 (k3+1) b2_2 else JL f day b2_1 b2_3 k3 b2_2 0 []
termination_by f.bH.length-k3
def Xs (f:Fil) (day:Int) (b2_1:List Sgn) (b2_3:List Act):Fil:=Jz f day b2_1 b2_3 0 []
def wl (f:Fil) (day:Int) (b2_1:List Sgn) (k2:Nat) (b2_3:List Act):Fil:=if k2<f.acts.length then if day<((f.acts.getD k2 dF).day)then Xs f day b2_1 b2_3 else wl f day b2_1 (k2+1) (b2_3++ [(f.acts.getD k2 dF)])else Xs f day b2_1 b2_3
termination_by f.acts.length-k2
def UR (f:Fil) (day:Int) (b2_1:List Sgn):Fil:=wl f day b2_1 0 []
def Up (f:Fil) (day:Int) (k1:Nat) (b2_1:List Sgn):Fil:=if k1<f.bF.length then if day<((f.bF.getD k1 dF).day)then UR f day b2_1 else Up f day (k1+1) (b2_1++ [(f.bF.getD k1 dF)])else UR f day b2_1
termination_by f.bF.length-k1
def atV (f:Fil) (day:Int):Fil:=Up f day 0 []
theorem ZBa (f:Fil) (day:Int) (h1:f.bF.length<=1954687338211) (h2:f.bH.length<=8796093021952) (h3:f.acts.length<=1954687338211) (h4:f.facts.length<=5864062014634):GC Tryz.prog 13 [fiG f,iG day] (fiG (atV f day)):=by
 refine zA Tryz.func13 ?_
 refine gE [1,2,4] ?_
 refine gE [1,2,4,5] ?_
 refine gE [1,2,4,5,18,19,20] ?_
 refine Qo 2 15 45 9 (dF:Sgn) sgC ?_
 refine ul (α:=List Sgn) (fun x=>atV f day=UR f day x/\x.length<=f.bF.length) (fun x=>⟨[(1,iG day),(2,.ptr 0 0 0 0),(4,.ptr 1 0 0 0),(5,.ptr 2 0 0 0)],[(0,some (.box [iG f.bill.bP,iG f.bill.bO,iG f.bill.bQ,iG f.bill.sum,iG f.bill.cur,iG f.bill.ten.kind,iG f.bill.ten.n,iG f.bill.ten.unit,iG f.bill.day,iG f.bill.city,iG f.bill.pay,iG f.bill.need,iG f.bill.rate,iG f.bill.flags,iG f.bill.parts,.d (.row dF sgC f.bF),.d (.row dF alC f.bH),.d (.row dF acC f.acts),.d (.row dF fcC f.facts)])),(1,some (.box [iG 0,iG 0,iG 0,iG 0,iG 0,iG 0,iG 0,iG 0,iG 0,iG 0,iG 0,iG 0,iG 0,iG 0,iG 0,.d (.sc (.slice none 0 0)),.d (.sc (.slice none 0 0)),.d (.sc (.slice none 0 0)),.d (.sc (.slice none 0 0))])),(2,some (.box [iG f.bill.bP,iG f.bill.bO,iG f.bill.bQ,iG f.bill.sum,iG f.bill.cur,iG f.bill.ten.kind,iG f.bill.ten.n,iG f.bill.ten.unit,iG f.bill.day,iG f.bill.city,iG f.bill.pay,iG f.bill.need,iG f.bill.rate,iG f.bill.flags,iG f.bill.parts,.sl 3 9 0 x.length,.d (.sc (.slice none 0 0)),.d (.sc (.slice none 0 0)),.d (.sc (.slice none 0 0))])),(3,some (.row 45 9 dF sgC x 0))],4⟩) ?_ ?_
 ·rintro b2_1 ⟨hj1,hm0⟩
  refine gE [1,2,4,5,36,37,38] ?_
  refine Qo 2 17 66 9 (dF:Act) acC ?_
  refine ul (α:=List Act) (fun x=>atV f day=Xs f day b2_1 x/\x.length<=f.acts.length) (fun x=>⟨[(2,.ptr 0 0 0 0),(4,.ptr 1 0 0 0),(5,.ptr 2 0 0 0)],[(0,some (.box [iG f.bill.bP,iG f.bill.bO,iG f.bill.bQ,iG f.bill.sum,iG f.bill.cur,iG f.bill.ten.kind,iG f.bill.ten.n,iG f.bill.ten.unit,iG f.bill.day,iG f.bill.city,iG f.bill.pay,iG f.bill.need,iG f.bill.rate,iG f.bill.flags,iG f.bill.parts,.d (.row dF sgC f.bF),.d (.row dF alC f.bH),.d (.row dF acC f.acts),.d (.row dF fcC f.facts)])),(1,some (.box [iG 0,iG 0,iG 0,iG 0,iG 0,iG 0,iG 0,iG 0,iG 0,iG 0,iG 0,iG 0,iG 0,iG 0,iG 0,.d (.sc (.slice none 0 0)),.d (.sc (.slice none 0 0)),.d (.sc (.slice none 0 0)),.d (.sc (.slice none 0 0))])),(2,some (.box [iG f.bill.bP,iG f.bill.bO,iG f.bill.bQ,iG f.bill.sum,iG f.bill.cur,iG f.bill.ten.kind,iG f.bill.ten.n,iG f.bill.ten.unit,iG f.bill.day,iG f.bill.city,iG f.bill.pay,iG f.bill.need,iG f.bill.rate,iG f.bill.flags,iG f.bill.parts,.sl 3 9 0 b2_1.length,.d (.sc (.slice none 0 0)),.sl 4 9 0 x.length,.d (.sc (.slice none 0 0))])),(3,some (.row 45 9 dF sgC b2_1 0)),(4,some (.row 66 9 dF acC x 0))],5⟩) ?_ ?_
  ·rintro b2_3 ⟨hj2,hm0⟩
   refine gE [2,4,5,54,55,56] ?_
   refine Qo 2 16 84 2 (dF:Alt) alC ?_
   refine zI (α:=Nat×List Alt) (fun x=>x.1<=f.bH.length/\Jz f day b2_1 b2_3 0 []=Jz f day b2_1 b2_3 x.1 x.2/\x.2.length<=x.1) (fun x=>[(56,iG x.1)]) (fun x=>[(5,some (.row 84 2 dF alC x.2 0)),(2,some (.box [iG f.bill.bP,iG f.bill.bO,iG f.bill.bQ,iG f.bill.sum,iG f.bill.cur,iG f.bill.ten.kind,iG f.bill.ten.n,iG f.bill.ten.unit,iG f.bill.day,iG f.bill.city,iG f.bill.pay,iG f.bill.need,iG f.bill.rate,iG f.bill.flags,iG f.bill.parts,.sl 3 9 0 b2_1.length,.sl 5 2 0 x.2.length,.sl 4 9 0 b2_3.length,.d (.sc (.slice none 0 0))]))]) (fun x=>f.bH.length-x.1) (0,[]) ⟨by (try simp only[]);omega,rfl,by first|omega|(simp;done)|(simp only[List.length_append,List.length_cons,List.length_nil,List.length_set,List.length_replicate];omega)⟩ ?_ (hp:=t40)
   rintro ⟨k3,b2_2⟩ ⟨hi3,he3,hl_b2_2⟩
   dsimp only at*
   refine gE [2,4,5,54,55,56,57] ?_
   refine zB ?_ ?_<;>intro c1<;>try simp only[toN]at c1
   ·refine gE [2,4,5,11,54,55,56] ?_
    refine gE [2,4,5,11,54,55,56,65] ?_
    refine zB ?_ ?_<;>intro c2<;>try simp only[toN]at c2
    ·refine gU [.el dF alC ([(f.bH.getD k3 dF)]:List Alt),.el dF alC (b2_2++ [(f.bH.getD k3 dF)])] [2,4,5,54,55,56] ?_
     refine gE [2,4,5,54,55,56] ?_
     refine zD ((k3+1,b2_2++ [(f.bH.getD k3 dF)])) ?_ (hp:=t40) (hm:=by dsimp only;omega)
     refine ⟨by (try simp only[]);omega,he3.trans ?_,by first|omega|(simp;done)|(simp only[List.length_append,List.length_cons,List.length_nil,List.length_set,List.length_replicate];omega)⟩
     rw[Jz,iP t11,iP c2]
     try rfl
    refine gE [2,4,5,54,55,56] ?_
    refine zD ((k3+1,b2_2)) ?_ (hp:=t40) (hm:=by dsimp only;omega)
    refine ⟨by (try simp only[]);omega,he3.trans ?_,by first|omega|(simp;done)|(simp only[List.length_append,List.length_cons,List.length_nil,List.length_set,List.length_replicate];omega)⟩
    rw[Jz,iP t11,iQ c2]
    try rfl
   refine gE [4,5,74,75,76] ?_
   refine Qo 2 18 47 3 (dF:Fct) fcC ?_
   refine zI (α:=Nat×List Fct) (fun x=>x.1<=f.facts.length/\JL f day b2_1 b2_3 k3 b2_2 0 []=JL f day b2_1 b2_3 k3 b2_2 x.1 x.2/\x.2.length<=x.1) (fun x=>[(76,iG x.1)]) (fun x=>[(6,some (.row 47 3 dF fcC x.2 0)),(2,some (.box [iG f.bill.bP,iG f.bill.bO,iG f.bill.bQ,iG f.bill.sum,iG f.bill.cur,iG f.bill.ten.kind,iG f.bill.ten.n,iG f.bill.ten.unit,iG f.bill.day,iG f.bill.city,iG f.bill.pay,iG f.bill.need,iG f.bill.rate,iG f.bill.flags,iG f.bill.parts,.sl 3 9 0 b2_1.length,.sl 5 2 0 b2_2.length,.sl 4 9 0 b2_3.length,.sl 6 3 0 x.2.length]))]) (fun x=>f.facts.length-x.1) (0,[]) ⟨by (try simp only[]);omega,rfl,by first|omega|(simp;done)|(simp only[List.length_append,List.length_cons,List.length_nil,List.length_set,List.length_replicate];omega)⟩ ?_ (hp:=t40)
   rintro ⟨k4,b2_4⟩ ⟨hi4,he4,hl_b2_4⟩
   dsimp only at*
   refine gE [4,5,74,75,76,77] ?_
   refine zB ?_ ?_<;>intro c3<;>try simp only[toN]at c3
   ·refine gE [4,5,13,74,75,76] ?_
    refine gR [.call (wB ((f.facts.getD k4 dF).at_) (b2_1.length:Int))] [4,5,13,74,75,76,85] ?_
    refine zF ?_ ?_<;>intro c4<;>try simp only[bb,toN]at c4
    ·refine gU [.el dF fcC ([(f.facts.getD k4 dF)]:List Fct),.el dF fcC (b2_4++ [(f.facts.getD k4 dF)])] [4,5,74,75,76] ?_
     refine gE [4,5,74,75,76] ?_
     refine zD ((k4+1,b2_4++ [(f.facts.getD k4 dF)])) ?_ (hp:=t40) (hm:=by dsimp only;omega)
     refine ⟨by (try simp only[]);omega,he4.trans ?_,by first|omega|(simp;done)|(simp only[List.length_append,List.length_cons,List.length_nil,List.length_set,List.length_replicate];omega)⟩
     rw[JL,iP t11,iP (by (try simp only[bb,toN]);exact c4)]
     try rfl
    refine gE [4,5,74,75,76] ?_
    refine zD ((k4+1,b2_4)) ?_ (hp:=t40) (hm:=by dsimp only;omega)
    refine ⟨by (try simp only[]);omega,he4.trans ?_,by first|omega|(simp;done)|(simp only[List.length_append,List.length_cons,List.length_nil,List.length_set,List.length_replicate];omega)⟩
    rw[JL,iP t11,iN (by (try simp only[bb,toN]);exact c4)]
    try rfl
   refine gE [4] ?_
   refine gT ?_
   rw[hj2,Xs,he3,Jz,iQ t11,he4,JL,iQ t11];rfl
  refine zI (α:=Nat×List Act) (fun x=>x.1<=f.acts.length/\wl f day b2_1 0 []=wl f day b2_1 x.1 x.2/\x.2.length<=x.1) (fun x=>[(38,iG x.1)]) (fun x=>[(4,some (.row 66 9 dF acC x.2 0)),(2,some (.box [iG f.bill.bP,iG f.bill.bO,iG f.bill.bQ,iG f.bill.sum,iG f.bill.cur,iG f.bill.ten.kind,iG f.bill.ten.n,iG f.bill.ten.unit,iG f.bill.day,iG f.bill.city,iG f.bill.pay,iG f.bill.need,iG f.bill.rate,iG f.bill.flags,iG f.bill.parts,.sl 3 9 0 b2_1.length,.d (.sc (.slice none 0 0)),.sl 4 9 0 x.2.length,.d (.sc (.slice none 0 0))]))]) (fun x=>f.acts.length-x.1) (0,[]) ⟨by (try simp only[]);omega,rfl,by first|omega|(simp;done)|(simp only[List.length_append,List.length_cons,List.length_nil,List.length_set,List.length_replicate];omega)⟩ ?_ (hp:=t40)
  rintro ⟨k2,b2_3⟩ ⟨hi2,he2,hl_b2_3⟩
  dsimp only at*
  refine gE [1,2,4,5,36,37,38,39] ?_
  refine zB ?_ ?_<;>intro c5<;>try simp only[toN]at c5
  ·refine gE [1,2,4,5,9,36,37,38] ?_
   refine gE [1,2,4,5,9,36,37,38,45] ?_
   refine zB ?_ ?_<;>intro c6<;>try simp only[toN]at c6
   ·refine zV (b2_3) ?_ (hp:=t40)
    exact ⟨by rw[hj1,UR,he2,wl,iP t11,iP c6],by first|omega|(simp;done)|(simp only[List.length_append,List.length_cons,List.length_nil,List.length_set,List.length_replicate];omega)⟩
   refine gU [.el dF acC ([(f.acts.getD k2 dF)]:List Act),.el dF acC (b2_3++ [(f.acts.getD k2 dF)])] [1,2,4,5,36,37,38] ?_
   refine gE [1,2,4,5,36,37,38] ?_
   refine zD ((k2+1,b2_3++ [(f.acts.getD k2 dF)])) ?_ (hp:=t40) (hm:=by dsimp only;omega)
   refine ⟨by (try simp only[]);omega,he2.trans ?_,by first|omega|(simp;done)|(simp only[List.length_append,List.length_cons,List.length_nil,List.length_set,List.length_replicate];omega)⟩
   rw[wl,iP t11,iQ c6]
   try rfl
  refine zV (b2_3) ?_ (hp:=t40)
  exact ⟨by rw[hj1,UR,he2,wl,iQ t11],by first|omega|(simp;done)|(simp only[List.length_append,List.length_cons,List.length_nil,List.length_set,List.length_replicate];omega)⟩
 refine zI (α:=Nat×List Sgn) (fun x=>x.1<=f.bF.length/\Up f day 0 []=Up f day x.1 x.2/\x.2.length<=x.1) (fun x=>[(20,iG x.1)]) (fun x=>[(3,some (.row 45 9 dF sgC x.2 0)),(2,some (.box [iG f.bill.bP,iG f.bill.bO,iG f.bill.bQ,iG f.bill.sum,iG f.bill.cur,iG f.bill.ten.kind,iG f.bill.ten.n,iG f.bill.ten.unit,iG f.bill.day,iG f.bill.city,iG f.bill.pay,iG f.bill.need,iG f.bill.rate,iG f.bill.flags,iG f.bill.parts,.sl 3 9 0 x.2.length,.d (.sc (.slice none 0 0)),.d (.sc (.slice none 0 0)),.d (.sc (.slice none 0 0))]))]) (fun x=>f.bF.length-x.1) (0,[]) ⟨by (try simp only[]);omega,rfl,by first|omega|(simp;done)|(simp only[List.length_append,List.length_cons,List.length_nil,List.length_set,List.length_replicate];omega)⟩ ?_ (hp:=t40)
 rintro ⟨k1,b2_1⟩ ⟨hi1,he,hl_b2_1⟩
 dsimp only at*
 refine gE [1,2,4,5,18,19,20,21] ?_
 refine zB ?_ ?_<;>intro c7<;>try simp only[toN]at c7
 ·refine gE [1,2,4,5,7,18,19,20] ?_
  refine gE [1,2,4,5,7,18,19,20,27] ?_
  refine zB ?_ ?_<;>intro c8<;>try simp only[toN]at c8
  ·refine zV (b2_1) ?_ (hp:=t40)
   exact ⟨by rw[atV,he,Up,iP t11,iP c8],by first|omega|(simp;done)|(simp only[List.length_append,List.length_cons,List.length_nil,List.length_set,List.length_replicate];omega)⟩
  refine gU [.el dF sgC ([(f.bF.getD k1 dF)]:List Sgn),.el dF sgC (b2_1++ [(f.bF.getD k1 dF)])] [1,2,4,5,18,19,20] ?_
  refine gE [1,2,4,5,18,19,20] ?_
  refine zD ((k1+1,b2_1++ [(f.bF.getD k1 dF)])) ?_ (hp:=t40) (hm:=by dsimp only;omega)
  refine ⟨by (try simp only[]);omega,he.trans ?_,by first|omega|(simp;done)|(simp only[List.length_append,List.length_cons,List.length_nil,List.length_set,List.length_replicate];omega)⟩
  rw[Up,iP t11,iQ c8]
  try rfl
 refine zV (b2_1) ?_ (hp:=t40)
 exact ⟨by rw[atV,he,Up,iQ t11],by first|omega|(simp;done)|(simp only[List.length_append,List.length_cons,List.length_nil,List.length_set,List.length_replicate];omega)⟩
theorem zUs (f:Fil) (day:Int) (S:List Sgn) (A:List Act) (k3:Nat) (L:List Alt):∀(n k:Nat) (acc:List Fct),f.facts.length-k=n->JL f day S A k3 L k acc=⟨f.bill,S,L,A,acc++(f.facts.drop k).filter fun x=>WR x.at_ S.length⟩:=by
 intro n
 induction n with
 |zero=>intro k acc h;rw[JL,iQ t11,JJ t11];simp
 |succ n ih=>
  intro k acc h
  rw[JL,iP t11,Yb t11,List.filter_cons]
  split
  ·rw[ih _ _ t11];simp
  rw[ih _ _ t11]
theorem zUt (f:Fil) (day:Int) (S:List Sgn) (A:List Act):∀(n k:Nat) (acc:List Alt),f.bH.length-k=n->∃k3,Jz f day S A k acc=JL f day S A k3 (acc++(f.bH.drop k).filter fun x=>decide (x.at_<=(S.length:Int))) 0 []:=by
 intro n
 induction n with
 |zero=>intro k acc h;rw[Jz,iQ t11,JJ t11];simp;exact ⟨_,rfl⟩
 |succ n ih=>
  intro k acc h
  rw[Jz,iP t11,Yb t11,List.filter_cons]
  split
  ·rename_i hc
   obtain ⟨k3,h3⟩:=ih (k+1) (acc++ [f.bH.getD k dF]) t11
   rw[h3,iP (by simpa using hc)];exact ⟨k3,by simp⟩
  rename_i hc
  obtain ⟨k3,h3⟩:=ih (k+1) acc t11
  rw[h3,iQ (by simpa using hc)];exact ⟨k3,rfl⟩
theorem zUu (f:Fil) (day:Int) (S:List Sgn):∀(n k:Nat) (acc:List Act),f.acts.length-k=n->wl f day S k acc=Xs f day S (acc++(f.acts.drop k).takeWhile fun x=> !decide (day<x.day)):=by
 intro n
 induction n with
 |zero=>intro k acc h;rw[wl,iQ t11,JJ t11];simp
 |succ n ih=>
  intro k acc h
  rw[wl,iP t11,Yb t11,List.takeWhile_cons]
  split
  ·rename_i hc;rw[iQ (by rw[decide_eq_true hc];simp),List.append_nil]
  rename_i hc;rw[ih _ _ t11,iP (by rw[decide_eq_false hc];rfl),List.append_assoc];rfl
theorem ZAk (f:Fil) (day:Int):∀(n k:Nat) (acc:List Sgn),f.bF.length-k=n->Up f day k acc=UR f day (acc++(f.bF.drop k).takeWhile fun x=> !decide (day<x.day)):=by
 intro n
 induction n with
 |zero=>intro k acc h;rw[Up,iQ t11,JJ t11];simp
 |succ n ih=>
  intro k acc h
  rw[Up,iP t11,Yb t11,List.takeWhile_cons]
  split
  ·rename_i hc;rw[iQ (by rw[decide_eq_true hc];simp),List.append_nil]
  rename_i hc;rw[ih _ _ t11,iP (by rw[decide_eq_false hc];rfl),List.append_assoc];rfl
def upto (l:List Sgn) (day:Int):List Sgn:=l.takeWhile fun x=> !decide (day<x.day)
theorem Zb (f:Fil) (day:Int):atV f day=⟨f.bill,upto f.bF day,f.bH.filter fun x=>decide (x.at_<=((upto f.bF day).length:Int)),f.acts.takeWhile fun x=> !decide (day<x.day),f.facts.filter fun x=>WR x.at_ (upto f.bF day).length⟩:=by
 rw[atV,ZAk f day _ 0 [] rfl,UR,zUu f day _ _ 0 [] rfl,Xs]
 obtain ⟨k3,h⟩:=zUt f day ([]++(f.bF.drop 0).takeWhile fun x=> !decide (day<x.day)) ([]++(f.acts.drop 0).takeWhile fun x=> !decide (day<x.day)) _ 0 [] rfl
 rw[h,zUs f day _ _ _ _ _ 0 [] rfl]
 rfl
def VB (a:Alt) (c:Cas):Bool:=decide (a.at_<=c.sign)
theorem zOj (a:Alt) (c:Cas):GC Tryz.prog 239 [alG a,.ep (caC c)] (bG (VB a c)):=by
 refine zA Tryz.func239 ?_
 refine gE [1,2,3] ?_
 refine gE [3] ?_
 refine gT ?_
 rw[VB];rfl
theorem Ki (l:List Alt) (hl:l.length<=9223372036854775807) (c:Cas):GC Tryz.prog 268 [.d (.row dF alC l),.fn (.func 239) [] [.ep (caC c)]] (iG (zQ (fun y=>VB y c) l 0)):=by
 refine zA Tryz.func268 ?_
 refine gE [0,1,4] ?_
 refine gE [0,1,4,7,8] ?_
 refine zI (α:=Nat) (fun i=>i<=l.length/\zQ (fun y=>VB y c) l 0=zQ (fun y=>VB y c) (l.drop i) i) (fun i=>[(8,iG i)]) (fun _=>[]) (fun i=>l.length-i) 0 ⟨by omega,rfl⟩ ?_ (hp:=t40)
 rintro i ⟨hi,he⟩
 refine gE [0,1,4,7,8,9] ?_
 refine zB ?_ ?_<;>intro c1<;>try simp only[toN]at c1
 ·refine gE [0,1,4,5,7,8] ?_
  refine gR [.call (zOj (l.getD i dF) c)] [0,1,4,5,7,8,16] ?_
  refine zF ?_ ?_<;>intro c2<;>try simp only[bb,toN]at c2
  ·refine gE [0,1,4,7,8] ?_
   refine gT ?_
   rw[he,Yb t11,zQ,iP (by exact c2)];rfl
  refine gE [0,1,4,7,8] ?_
  refine zD (i+1) ?_ (hp:=t40)
  refine ⟨by omega,he.trans ?_⟩
  rw[Yb t11,zQ,iQ (by rw[Bool.not_eq_true];exact c2)]
 refine gE [4] ?_
 refine gT ?_
 rw[he,JJ t11];rfl
theorem Km (l:List Alt) (hl:l.length<=9223372036854775807) (c:Cas):GC Tryz.prog 238 [.d (.row dF alC l),.fn (.func 239) [] [.ep (caC c)]] (bG (l.any (fun y=>VB y c))):=by
 refine zA Tryz.func238 ?_
 refine gE [0,1,4] ?_
 refine gR [.call (Ki l hl c)] [4] ?_
 refine gT ?_
 rw[<-QB];rfl
def Ug (o:Int) (n:Int):Bool:=(bif decide (o<0)then true else decide (n<=o))
theorem zSz (o:Int) (n:Int):GC Tryz.prog 243 [iG o,.ep [.sc (.int .i64 n)]] (bG (Ug o n)):=by
 refine zA Tryz.func243 ?_
 refine gE [0,1,3] ?_
 refine gE [3] ?_
 refine gT ?_
 rw[Ug];rfl
theorem Kk (l:List Int) (hl:l.length<=9223372036854775807) (n:Int):GC Tryz.prog 269 [.d (.row dF inC l),.fn (.func 243) [] [.ep [.sc (.int .i64 n)]]] (iG (zQ (fun y=>Ug y n) l 0)):=by
 refine zA Tryz.func269 ?_
 refine gE [0,1,4] ?_
 refine gE [0,1,4,7,8] ?_
 refine zI (α:=Nat) (fun i=>i<=l.length/\zQ (fun y=>Ug y n) l 0=zQ (fun y=>Ug y n) (l.drop i) i) (fun i=>[(8,iG i)]) (fun _=>[]) (fun i=>l.length-i) 0 ⟨by omega,rfl⟩ ?_ (hp:=t40)
 rintro i ⟨hi,he⟩
 refine gE [0,1,4,7,8,9] ?_
 refine zB ?_ ?_<;>intro c1<;>try simp only[toN]at c1
 ·refine gE [0,1,4,5,7,8] ?_
  refine gR [.call (zSz (l.getD i dF) n)] [0,1,4,5,7,8,16] ?_
  refine zF ?_ ?_<;>intro c2<;>try simp only[bb,toN]at c2
  ·refine gE [0,1,4,7,8] ?_
   refine gT ?_
   rw[he,Yb t11,zQ,iP (by exact c2)];rfl
  refine gE [0,1,4,7,8] ?_
  refine zD (i+1) ?_ (hp:=t40)
  refine ⟨by omega,he.trans ?_⟩
  rw[Yb t11,zQ,iQ (by rw[Bool.not_eq_true];exact c2)]
 refine gE [4] ?_
 refine gT ?_
 rw[he,JJ t11];rfl
theorem Kn (l:List Int) (hl:l.length<=9223372036854775807) (n:Int):GC Tryz.prog 242 [.d (.row dF inC l),.fn (.func 243) [] [.ep [.sc (.int .i64 n)]]] (bG (l.any (fun y=>Ug y n))):=by
 refine zA Tryz.func242 ?_
 refine gE [0,1,4] ?_
 refine gR [.call (Kk l hl n)] [4] ?_
 refine gT ?_
 rw[<-QB];rfl
def VA (x:Rul) (ask:Int):Bool:=decide (x.ask=ask)
theorem zTb (x:Rul) (ask:Int):GC Tryz.prog 215 [rulG x,.ep [.sc (.int .i64 ask)]] (bG (VA x ask)):=by
 refine zA Tryz.func215 ?_
 refine gE [1,2,3] ?_
 refine gE [3] ?_
 refine gT ?_
 rw[VA];rfl
theorem Kl (l:List Rul) (hl:l.length<=9223372036854775807) (ask:Int):GC Tryz.prog 214 [.d (.row dF zEd l),.fn (.func 215) [] [.ep [.sc (.int .i64 ask)]]] (iG (zQ (fun y=>VA y ask) l 0)):=by
 refine zA Tryz.func214 ?_
 refine gE [0,1,4] ?_
 refine gE [0,1,4,7,8] ?_
 refine zI (α:=Nat) (fun i=>i<=l.length/\zQ (fun y=>VA y ask) l 0=zQ (fun y=>VA y ask) (l.drop i) i) (fun i=>[(8,iG i)]) (fun _=>[]) (fun i=>l.length-i) 0 ⟨by omega,rfl⟩ ?_ (hp:=t40)
 rintro i ⟨hi,he⟩
 refine gE [0,1,4,7,8,9] ?_
 refine zB ?_ ?_<;>intro c1<;>try simp only[toN]at c1
 ·refine gE [0,1,4,5,7,8] ?_
  refine gR [.call (zTb (l.getD i dF) ask)] [0,1,4,5,7,8,16] ?_
  refine zF ?_ ?_<;>intro c2<;>try simp only[bb,toN]at c2
  ·refine gE [0,1,4,7,8] ?_
   refine gT ?_
   rw[he,Yb t11,zQ,iP (by exact c2)];rfl
  refine gE [0,1,4,7,8] ?_
  refine zD (i+1) ?_ (hp:=t40)
  refine ⟨by omega,he.trans ?_⟩
  rw[Yb t11,zQ,iQ (by rw[Bool.not_eq_true];exact c2)]
 refine gE [4] ?_
 refine gT ?_
 rw[he,JJ t11];rfl
def Ww (r:Rlm) (order:Int) (ask:Int) (places:List Int):Bool:=if (bif (bif (bif (bif decide (order<0)then true else decide ((r.bD.length:Int)<=order))then true else decide (ask<0))then true else decide (22<=ask))then true else (!decide ((places.length:Int)=5)))=true then false else (!(places.any (fun y=>Ug y (r.bD.length:Int))))
theorem zIz (r:Rlm) (order:Int) (ask:Int) (places:List Int) (hr:FitR r) (hp:places.length<=9223372036854775807):GC Tryz.prog 212 [rlG r,iG order,iG ask,.d (.row dF inC places)] (bG (Ww r order ask places)):=by
 have h1:=hr.bD
 refine zA Tryz.func212 ?_
 refine gE [1,2,3,4,8] ?_
 refine gE [1,2,3,8,9] ?_
 refine gE [3,8,9,32] ?_
 refine zF ?_ ?_<;>intro c1<;>try simp only[bb,toN]at c1
 ·refine gE [3,8,9] ?_
  refine gT ?_
  rw[Ww,iP (by (try simp only[bb,toN]);exact c1)];rfl
 refine zz 1 ?_
 refine gR [.call (Kn places t11 (r.bD.length:Int))] [8] ?_
 refine gT ?_
 rw[Ww,iN (by (try simp only[bb,toN]);exact c1)];rfl
structure RightR (r:Rlm):Prop where
 fit:FitR r
 by_:∀o,o∈r.bD->∀c,c∈o.bL->0<=c.by_/\c.by_<5
 len:∀o,o∈r.bD->o.bL.length<=1000/\o.rules.length<=1000
 ordC:∀c,c∈r.bB->0<=c.ord/\c.ord<r.bD.length/\0<=c.cur/\c.cur<r.bA.length
 firmC:∀c,c∈r.bC->0<=c.city/\c.city<r.bB.length
 rate:∀x,x∈r.rates->1<=x.num/\x.num<=1073741824/\1<=x.den/\x.den<=1073741824
 halt:∀x,x∈r.halts->0<=x.fr/\x.fr<=x.dst/\x.dst<=100000
theorem Kx {r:Rlm} {o q:Int} {l:List Int} (h:Ww r o q l=true):0<=o/\o<r.bD.length/\0<=q/\q<22/\l.length=5/\∀x,x∈l->0<=x/\x<r.bD.length:=by
 unfold Ww at h
 split at h
 ·cases h
 rename_i hc
 rw[Bool.not_eq_true]at hc
 simp only[bb]at hc
 refine ⟨by omega,by omega,by omega,by omega,by have:=hc.2;omega,fun x hx=> ?_⟩
 have h2:∀y,y∈l->¬Ug y r.bD.length=true:=by simpa using h
 have:=h2 x hx
 unfold Ug at this
 rw[Bool.not_eq_true]at this
 simp only[bb]at this
 omega
def Yn (r:Rlm) (order:Int) (ask:Int) (places:List Int) (k1:Nat):Int×Bool:=if k1<((r.bD.getD order.toNat dF).bL).length then if (bif decide (((((r.bD.getD order.toNat dF).bL).getD k1 dF).ask)=ask)then (!decide (((((r.bD.getD order.toNat dF).bL).getD k1 dF).by_)=0))else false)=true then ((places.getD (((((r.bD.getD order.toNat dF).bL).getD k1 dF).by_).toNat) dF),(((r.bD.getD order.toNat dF).bL).getD k1 dF).whole)else Yn r order ask places (k1+1)else (order,false)
termination_by ((r.bD.getD order.toNat dF).bL).length-k1
decreasing_by all_goals first|omega|(simp only[bb]at*;omega)
def Zu (r:Rlm) (order:Int) (ask:Int) (places:List Int):Int×Bool:=if (!(Ww r order ask places))=true then ((-1),false)else Yn r order ask places 0
theorem zRq (r:Rlm) (order:Int) (ask:Int) (places:List Int) (hR:RightR r) (hp:places.length<=9223372036854775807):GC Tryz.prog 213 [rlG r,iG order,iG ask,.d (.row dF inC places)] (.tup [iG ((Zu r order ask places).1),bG ((Zu r order ask places).2)]):=by
 have hr:=hR.fit
 have h1:=hr.bD
 refine zA Tryz.func213 ?_
 refine gE [1,2,3,4,8,9] ?_
 refine gR [.call (zIz r order ask places hr t11)] [1,2,3,4,8,9,17] ?_
 refine zF ?_ ?_<;>intro c1<;>try simp only[bb,toN]at c1
 ·refine gE [1,2,3,4,8,9] ?_
  refine gT ?_
  rw[Zu,iP (by (try simp only[bb,toN]);exact c1)];rfl
 have hf:=Kx c1
 have hl:=(hR.len _ (zJ (l:=r.bD) (i:=order.toNat) t11)).1
 refine gE [1,2,3,8,9,23,24,25] ?_
 refine zI (α:=Nat) (fun x=>x<=((r.bD.getD order.toNat dF).bL).length/\Yn r order ask places 0=Yn r order ask places x) (fun x=>[(25,iG x)]) (fun x=>[]) (fun x=>((r.bD.getD order.toNat dF).bL).length-x) 0 ⟨by (try simp only[]);omega,rfl⟩ ?_ (hp:=t40)
 rintro k1 ⟨hi1,he⟩
 refine gE [1,2,3,8,9,23,24,25,26] ?_
 refine zB ?_ ?_<;>intro c2<;>try simp only[toN]at c2
 ·refine gE [1,2,3,8,9,11,23,24,25] ?_
  have hb:=hR.by_ _ (zJ (l:=r.bD) (i:=order.toNat) t11) _ (zJ (i:=k1) t11)
  refine gE [1,2,3,8,9,11,23,24,25,37] ?_
  refine zF ?_ ?_<;>intro c3<;>try simp only[bb,toN]at c3
  ·refine gE [1,2,3,8,9,23,24,25] ?_
   refine gT ?_
   rw[Zu,iN (by (try simp only[bb,toN]);exact c1),he,Yn,iP t11,iP (by (try simp only[bb,toN]);exact c3)];rfl
  refine gE [1,2,3,8,9,23,24,25] ?_
  refine zD (k1+1) ?_ (hp:=t40)
  refine ⟨by (try simp only[]);omega,he.trans ?_⟩
  rw[Yn,iP t11,iN (by (try simp only[bb,toN]);exact c3)]
  try rfl
 refine gE [8,9] ?_
 refine gT ?_
 rw[Zu,iN (by (try simp only[bb,toN]);exact c1),he,Yn,iQ t11];rfl
def JT (ask:Int):Int×Bool:=if (bif decide (ask<0)then true else decide (22<=ask))=true then (0,false)else if (qv [6,7,10,12,13,14,15,16,20,21] ask)=true then (0,true)else (1,true)
theorem KA (ask:Int):GC Tryz.prog 175 [iG ask] (.tup [iG ((JT ask).1),bG ((JT ask).2)]):=by
 refine zA Tryz.func175 ?_
 refine gE [0,2,3] ?_
 refine gE [0,2,3,4] ?_
 refine zF ?_ ?_<;>intro c1<;>try simp only[bb,toN]at c1
 ·refine gE [2,3] ?_
  refine gT ?_
  rw[JT,iP (by (try simp only[bb,toN]);exact c1)];rfl
 refine gP [.el dF inC [6,7,10,12,13,14,15,16,20,21],.call ((fun l x h=>zh l h x) [6,7,10,12,13,14,15,16,20,21] ask t17)] [2,3,11] ?_
 refine zF ?_ ?_<;>intro c2<;>try simp only[bb,toN]at c2
 ·refine gE [2,3] ?_
  refine gT ?_
  rw[JT,iN (by (try simp only[bb,toN]);exact c1),iP (by (try simp only[bb,toN]);exact c2)];rfl
 refine gE [2,3] ?_
 refine gT ?_
 rw[JT,iN (by (try simp only[bb,toN]);exact c1),iN (by (try simp only[bb,toN]);exact c2)];rfl
structure Shp where
 args:List Int
 result:Int
deriving DecidableEq
instance :Inhabited Shp:=⟨⟨[],0⟩⟩
abbrev shpG (x:Shp):G:= .agg [.d (.row dF inC x.args),iG x.result]
theorem Yf.len {k:Nat} {t:Tm} (h:Yf k t):t.args.length<=4000000000000:=by
 cases k with
 |zero=>have h:t.args= []:=h;rw[h];simp
 |succ k=>exact h.1
theorem Yf.at_ {k:Nat} {t:Tm} (h:Yf k t) {i:Nat} (hi:i<t.args.length):∃j,k=j+1/\Yf j (t.args.getD i dF):=by
 cases k with
 |zero=>have h:t.args= []:=h;rw[h]at hi;simp at hi
 |succ k=>exact ⟨k,rfl,h.2 _ (zJ hi)⟩
def zi (op:Int):Shp:=if op=3 then ⟨[1],1⟩else if op=4 then ⟨[1,1],1⟩else if op=5 then ⟨[1,1],1⟩else if op=6 then ⟨[1,(-1),(-1)],(-1)⟩else if op=7 then ⟨[0,0],1⟩else if op=8 then ⟨[(-1),(-1)],1⟩else ⟨[0,0],0⟩
theorem zDz (op:Int):GC Tryz.prog 271 [iG op] (shpG (zi op)):=by
 refine zA Tryz.func271 ?_
 refine gE [0,2] ?_
 refine gE [2,3] ?_
 refine gE [2,3,4] ?_
 refine zB ?_ ?_<;>intro c1<;>try simp only[toN]at c1
 ·refine gR [.el dF inC [1]] [2] ?_
  refine gT ?_
  rw[zi,iP c1];rfl
 refine gE [2,3,8] ?_
 refine zB ?_ ?_<;>intro c2<;>try simp only[toN]at c2
 ·refine zB ?_ ?_<;>intro c3<;>try simp only[toN]at c3
  ·refine gR [.el dF inC [1,1]] [2] ?_
   refine gT ?_
   rw[zi,iQ c1,iP c2];rfl
  exact absurd c2 c3
 refine gE [2,3,8] ?_
 refine zB ?_ ?_<;>intro c4<;>try simp only[toN]at c4
 ·refine gR [.el dF inC [1,1]] [2] ?_
  refine gT ?_
  rw[zi,iQ c1,iQ c2,iP c4];rfl
 refine gE [2,3,13] ?_
 refine zB ?_ ?_<;>intro c5<;>try simp only[toN]at c5
 ·refine gR [.el dF inC [1,(-1),(-1)]] [2] ?_
  refine gT ?_
  rw[zi,iQ c1,iQ c2,iQ c4,iP c5];rfl
 refine gE [2,3,17] ?_
 refine zB ?_ ?_<;>intro c6<;>try simp only[toN]at c6
 ·refine gR [.el dF inC [0,0]] [2] ?_
  refine gT ?_
  rw[zi,iQ c1,iQ c2,iQ c4,iQ c5,iP c6];rfl
 refine gE [2,21] ?_
 refine zB ?_ ?_<;>intro c7<;>try simp only[toN]at c7
 ·refine gR [.el dF inC [(-1),(-1)]] [2] ?_
  refine gT ?_
  rw[zi,iQ c1,iQ c2,iQ c4,iQ c5,iQ c6,iP c7];rfl
 refine gR [.el dF inC [0,0]] [2] ?_
 refine gT ?_
 rw[zi,iQ c1,iQ c2,iQ c4,iQ c5,iQ c6,iQ c7];rfl
def Ym (t:Tm):Int×Int:=if 0<(t.args.length:Int)then (0,2)else if t.op=0 then if (zNm t.n)=t.n then (0,0)else (0,3)else if t.op=1 then if (bif decide (t.n<0)then true else decide (1<t.n))=true then (0,3)else (1,0)else if (!(VO t.n).2)=true then (0,10)else ((VO t.n).1,0)
theorem zYa (t:Tm) (k:Nat) (ht:Yf k t):GC Tryz.prog 270 [Qw k t] (.tup [iG ((Ym t).1),iG ((Ym t).2)]):=by
 have hl:=ht.len
 refine zA Tryz.func270 ?_
 refine gE [1,2,3] ?_
 refine gE [1,2,3,9] ?_
 refine zB ?_ ?_<;>intro c1<;>try simp only[toN]at c1
 ·refine gE [1,2,3] ?_
  refine gT ?_
  rw[Ym,iP c1];rfl
 refine gE [1,2,3,11] ?_
 refine gE [1,2,3,11,12] ?_
 refine zB ?_ ?_<;>intro c2<;>try simp only[toN]at c2
 ·refine gR [.call (HA t.n)] [1,2,3,19] ?_
  refine zP ?_ ?_<;>intro c3<;>try simp only[toN]at c3
  ·refine gE [1,2,3] ?_
   refine gT ?_
   rw[Ym,iQ c1,iP c2,iQ c3];rfl
  refine gE [1,2,3] ?_
  refine gT ?_
  rw[Ym,iQ c1,iP c2,iP c3];rfl
 refine gE [1,2,3,20] ?_
 refine zB ?_ ?_<;>intro c4<;>try simp only[toN]at c4
 ·refine gE [1,2,3,29] ?_
  refine zF ?_ ?_<;>intro c5<;>try simp only[bb,toN]at c5
  ·refine gE [1,2,3] ?_
   refine gT ?_
   rw[Ym,iQ c1,iQ c2,iP c4,iP (by (try simp only[bb,toN]);exact c5)];rfl
  refine gE [1,2,3] ?_
  refine gT ?_
  rw[Ym,iQ c1,iQ c2,iP c4,iN (by (try simp only[bb,toN]);exact c5)];rfl
 refine gR [.call (zHk t.n)] [2,3,4,5] ?_
 refine gE [2,3,4,37] ?_
 refine zF ?_ ?_<;>intro c6<;>try simp only[bb,toN]at c6
 ·refine gE [2,3,4] ?_
  refine gT ?_
  rw[Ym,iQ c1,iQ c2,iQ c4,iP (by (try simp only[bb,toN]);exact c6)];rfl
 refine gE [2,3] ?_
 refine gT ?_
 rw[Ym,iQ c1,iQ c2,iQ c4,iN (by (try simp only[bb,toN]);exact c6)];rfl
def js (f:Tm->Int->Int) (t:Tm) (lv:Int) (a5_1:Int):Int:=a5_1
def Yl (f:Tm->Int->Int) (t:Tm) (lv:Int) (a5_1:Int) (k1:Nat):Int:=if k1<t.args.length then if 60<(i64.wrap (a5_1+(f (t.args.getD k1 dF) (i64.wrap (lv+1)))))then js f t lv (i64.wrap (a5_1+(f (t.args.getD k1 dF) (i64.wrap (lv+1)))))else Yl f t lv (i64.wrap (a5_1+(f (t.args.getD k1 dF) (i64.wrap (lv+1))))) (k1+1)else js f t lv a5_1
termination_by t.args.length-k1
def Jf (f:Tm->Int->Int) (t:Tm) (lv:Int):Int:=if 8<lv then 61 else Yl f t lv 1 0
theorem zAh (f:Tm->Int->Int) (t:Tm) (lv:Int) (k:Nat) (hf:∀j,k=j+1->∀a lv,Yf j a->GC Tryz.prog 244 [Qw j a,iG lv] (iG (f a lv))) (ht:Yf k t):GC Tryz.prog 244 [Qw k t,iG lv] (iG (Jf f t lv)):=by
 have hl:=ht.len
 refine zA Tryz.func244 ?_
 refine gE [1,2,4] ?_
 refine gE [1,2,4,9] ?_
 refine zB ?_ ?_<;>intro c1<;>try simp only[toN]at c1
 ·refine gE [1,2,4] ?_
  refine gT ?_
  rw[Jf,iP c1];rfl
 refine gE [1,2,4,5] ?_
 refine gE [1,4,5,11,12,13] ?_
 refine ul (α:=Int) (fun x=>Jf f t lv=js f t lv x) (fun x=>⟨[(4,iG 0),(5,iG x)],[(0,some (.box [iG t.op,iG t.n,.d (.row dF (tmC k) t.args)]))],1⟩) ?_ ?_
 ·rintro a5_1 hj1
  refine gE [4] ?_
  refine gT ?_
  rw[hj1,js];rfl
 refine zI (α:=Int×Nat) (fun x=>x.2<=t.args.length/\Yl f t lv 1 0=Yl f t lv x.1 x.2) (fun x=>[(5,iG x.1),(13,iG x.2)]) (fun x=>[]) (fun x=>t.args.length-x.2) (1,0) ⟨by (try simp only[]);omega,rfl⟩ ?_ (hp:=t40)
 rintro ⟨a5_1,k1⟩ ⟨hi1,he⟩
 dsimp only at*
 refine gE [1,4,5,11,12,13,14] ?_
 refine zB ?_ ?_<;>intro c2<;>try simp only[toN]at c2
 ·obtain ⟨j,rfl,hfa⟩:=ht.at_ (i:=k1) t11
  refine gE [1,4,5,7,11,12,13] ?_
  refine zG env true [.call (hf _ rfl (t.args.getD k1 dF) (i64.wrap (lv+1)) hfa)] [1,4,5,11,12,13] ?_
  refine gE [1,4,5,11,12,13,24] ?_
  refine zB ?_ ?_<;>intro c3<;>try simp only[toN]at c3
  ·refine zV (i64.wrap (a5_1+(f (t.args.getD k1 dF) (i64.wrap (lv+1))))) ?_ (hp:=t40)
   exact by rw[Jf,iQ c1,he,Yl,iP t11,iP c3]
  refine gE [1,4,5,11,12,13] ?_
  refine zD ((i64.wrap (a5_1+(f (t.args.getD k1 dF) (i64.wrap (lv+1)))),k1+1)) ?_ (hp:=t40) (hm:=by dsimp only;omega)
  refine ⟨by (try simp only[]);omega,he.trans ?_⟩
  rw[Yl,iP t11,iQ c3]
  try rfl
 refine zV (a5_1) ?_ (hp:=t40)
 exact by rw[Jf,iQ c1,he,Yl,iQ t11]
def Qk:Nat->Tm->Int->Int
 |0=>Jf fun _ _=>0
 |k+1=>Jf (Qk k)
theorem zFc:∀(k:Nat) (t:Tm) (lv:Int),Yf k t->GC Tryz.prog 244 [Qw k t,iG lv] (iG (Qk k t lv)):=by
 intro k
 induction k with
 |zero=>intro t lv h;exact zAh _ t lv 0 (fun j e=>by omega) h
 |succ k ih=>intro t lv h;exact zAh (Qk k) t lv (k+1) (fun j e=>by cases e;exact ih) h
def ZH (f:Tm->Int×Int) (t:Tm) (a4_1:List Int) (k1:Nat) (a10_2:Int) (k2:Nat):Int×Int:=if k2<((zi t.op).args).length then if (bif decide ((((zi t.op).args).getD k2 dF)=(-1))then decide (a10_2=(-1))else false)=true then if (((zi t.op).args).getD k2 dF)=(-1)then if (a4_1.getD k2 dF)=(a4_1.getD k2 dF)then ZH f t a4_1 k1 (a4_1.getD k2 dF) (k2+1)else (0,11)else if (a4_1.getD k2 dF)=(((zi t.op).args).getD k2 dF)then ZH f t a4_1 k1 (a4_1.getD k2 dF) (k2+1)else (0,11)else if (((zi t.op).args).getD k2 dF)=(-1)then if (a4_1.getD k2 dF)=a10_2 then ZH f t a4_1 k1 a10_2 (k2+1)else (0,11)else if (a4_1.getD k2 dF)=(((zi t.op).args).getD k2 dF)then ZH f t a4_1 k1 a10_2 (k2+1)else (0,11)else if ((zi t.op).result)=(-1)then (a10_2,0)else ((zi t.op).result,0)
termination_by ((zi t.op).args).length-k2
def yz (f:Tm->Int×Int) (t:Tm) (a4_1:List Int) (k1:Nat):Int×Int:=if k1<t.args.length then if ((f (t.args.getD k1 dF)).2)=0 then yz f t (a4_1.set k1 ((f (t.args.getD k1 dF)).1)) (k1+1)else (0,(f (t.args.getD k1 dF)).2)else if (bif decide (t.op<0)then true else decide (13<t.op))=true then (0,1)else if (bif (bif decide (t.op=0)then true else decide (t.op=1))then true else decide (t.op=2))=true then ((Ym t).1,(Ym t).2)else if (bif (!decide ((a4_1.length:Int)=(((zi t.op).args).length:Int)))then true else (!decide (t.n=0)))=true then (0,2)else ZH f t a4_1 k1 (-1) 0
termination_by t.args.length-k1
def ym (f:Tm->Int×Int) (t:Tm):Int×Int:=yz f t (List.replicate t.args.length 0) 0
theorem zJh (f:Tm->Int×Int) (t:Tm) (k:Nat) (hf:∀j,k=j+1->∀a,Yf j a->GC Tryz.prog 245 [Qw j a] (.tup [iG (f a).1,iG (f a).2])) (ht:Yf k t):GC Tryz.prog 245 [Qw k t] (.tup [iG ((ym f t).1),iG ((ym f t).2)]):=by
 have hl:=ht.len
 refine zA Tryz.func245 ?_
 refine gE [1,2,3] ?_
 refine gR [.el dF inC (List.replicate t.args.length 0)] [1,2,3,4] ?_ (hp:=t33)
 refine gE [1,2,3,4,18,19,20] ?_
 refine zI (α:=List Int×Nat) (fun x=>x.2<=t.args.length/\yz f t (List.replicate t.args.length 0) 0=yz f t x.1 x.2/\x.1.length=t.args.length) (fun x=>[(4,.sl 1 1 0 x.1.length),(20,iG x.2)]) (fun x=>[(1,some (.row 3 1 dF inC x.1 0))]) (fun x=>t.args.length-x.2) (List.replicate t.args.length 0,0) ⟨by (try simp only[]);omega,rfl,by first|omega|(simp;done)|(simp only[List.length_append,List.length_cons,List.length_nil,List.length_set,List.length_replicate];omega)⟩ ?_ (hp:=t40)
 rintro ⟨a4_1,k1⟩ ⟨hi1,he,hl_a4_1⟩
 dsimp only at*
 refine gE [1,2,3,4,18,19,20,21] ?_
 refine zB ?_ ?_<;>intro c1<;>try simp only[toN]at c1
 ·obtain ⟨j,rfl,hfa⟩:=ht.at_ (i:=k1) t11
  refine gE [1,2,3,4,5,6,18,19,20] ?_
  refine gR [.call (hf _ rfl (t.args.getD k1 dF) hfa)] [1,2,3,4,5,7,8,18,19,20] ?_
  refine gE [1,2,3,4,5,7,8,18,19,20,31] ?_
  refine zP ?_ ?_<;>intro c2<;>try simp only[toN]at c2
  ·refine gE [1,2,3,4,5,7,18,19,20] ?_
   refine gT ?_
   rw[ym,he,yz,iP t11,iQ c2];rfl
  refine gR [.el dF inC (a4_1.set k1 ((f (t.args.getD k1 dF)).1))] [1,2,3,4,18,19,20] ?_ (hp:=(by simp only[zC,bb,toN,loI,hiI,Nat.zero_add];repeat' first|exact (ZW (cs:=inC) t27 rfl t26).symm|exact Nat.le_refl _|exact trivial|exact zH.refl _|exact zE.refl _|exact rfl|omega|apply And.intro|intro _|(simp;done)))
  refine gE [1,2,3,4,18,19,20] ?_
  refine zD ((a4_1.set k1 ((f (t.args.getD k1 dF)).1),k1+1)) ?_ (hp:=t40) (hm:=by dsimp only;omega)
  refine ⟨by (try simp only[]);omega,he.trans ?_,by first|omega|(simp;done)|(simp only[List.length_append,List.length_cons,List.length_nil,List.length_set,List.length_replicate];omega)⟩
  rw[yz,iP t11,iP c2]
  try rfl
 refine gE [1,2,3,4,38] ?_
 refine zF ?_ ?_<;>intro c3<;>try simp only[bb,toN]at c3
 ·refine gE [1,2,3,4] ?_
  refine gT ?_
  rw[ym,he,yz,iQ t11,iP (by (try simp only[bb,toN]);exact c3)];rfl
 refine gE [1,2,3,4,47] ?_
 refine zF ?_ ?_<;>intro c4<;>try simp only[bb,toN]at c4
 ·refine gR [.call (zYa t k t12)] [1,2,3,4] ?_
  refine gT ?_
  rw[ym,he,yz,iQ t11,iN (by (try simp only[bb,toN]);exact c3),iP (by (try simp only[bb,toN]);exact c4)];rfl
 refine gR [.call (zDz t.op)] [1,2,3,4,9] ?_
 refine gE [2,3,4,9,78] ?_
 refine zF ?_ ?_<;>intro c5<;>try simp only[bb,toN]at c5
 ·refine gE [2,3,4,9] ?_
  refine gT ?_
  rw[ym,he,yz,iQ t11,iN (by (try simp only[bb,toN]);exact c3),iN (by (try simp only[bb,toN]);exact c4),iP (by (try simp only[bb,toN]);exact c5)];rfl
 refine gE [2,3,4,9,10] ?_
 refine gE [2,3,4,9,10,80,81,82] ?_
 refine zI (α:=Int×Nat) (fun x=>x.2<=((zi t.op).args).length/\ZH f t a4_1 k1 (-1) 0=ZH f t a4_1 k1 x.1 x.2) (fun x=>[(10,iG x.1),(82,iG x.2)]) (fun x=>[]) (fun x=>((zi t.op).args).length-x.2) ((-1),0) ⟨by (try simp only[]);omega,rfl⟩ ?_ (hp:=t40)
 rintro ⟨a10_2,k2⟩ ⟨hi2,he2⟩
 dsimp only at*
 refine gE [2,3,4,9,10,80,81,82,83] ?_
 refine zB ?_ ?_<;>intro c6<;>try simp only[toN]at c6
 ·refine gE [2,3,4,9,10,11,12,80,81,82] ?_
  refine gE [2,3,4,9,10,11,12,80,81,82,92] ?_
  refine zF ?_ ?_<;>intro c7<;>try simp only[bb,toN]at c7
  ·refine gE [2,3,4,9,10,11,12,80,81,82] ?_ (hp:=t15)
   refine gE [2,3,4,9,10,11,12,80,81,82,98] ?_
   refine zB ?_ ?_<;>intro c8<;>try simp only[toN]at c8
   ·refine gE [2,3,4,9,10,11,12,80,81,82] ?_
    refine gE [2,3,4,9,10,80,81,82,105] ?_ (hp:=t15)
    refine zP ?_ ?_<;>intro c9<;>try simp only[toN]at c9
    ·refine gE [2,3,4,9,10,80,81,82] ?_
     refine gT ?_
     rw[ym,he,yz,iQ t11,iN (by (try simp only[bb,toN]);exact c3),iN (by (try simp only[bb,toN]);exact c4),iN (by (try simp only[bb,toN]);exact c5),he2,ZH,iP t11,iP (by (try simp only[bb,toN]);exact c7),iP c8,iQ (show ¬((a4_1.getD k2 dF)=(a4_1.getD k2 dF))from absurd trivial c9)];rfl
    refine gE [2,3,4,9,10,80,81,82] ?_
    refine zD (((a4_1.getD k2 dF),k2+1)) ?_ (hp:=t40) (hm:=by dsimp only;omega)
    refine ⟨by (try simp only[]);omega,he2.trans ?_⟩
    rw[ZH,iP t11,iP (by (try simp only[bb,toN]);exact c7),iP c8,iP (show (a4_1.getD k2 dF)=(a4_1.getD k2 dF)from rfl)]
    try rfl
   refine gE [2,3,4,9,10,80,81,82,105] ?_ (hp:=t15)
   refine zP ?_ ?_<;>intro c10<;>try simp only[toN]at c10
   ·refine gE [2,3,4,9,10,80,81,82] ?_
    refine gT ?_
    rw[ym,he,yz,iQ t11,iN (by (try simp only[bb,toN]);exact c3),iN (by (try simp only[bb,toN]);exact c4),iN (by (try simp only[bb,toN]);exact c5),he2,ZH,iP t11,iP (by (try simp only[bb,toN]);exact c7),iQ c8,iQ c10];rfl
   refine gE [2,3,4,9,10,80,81,82] ?_
   refine zD (((a4_1.getD k2 dF),k2+1)) ?_ (hp:=t40) (hm:=by dsimp only;omega)
   refine ⟨by (try simp only[]);omega,he2.trans ?_⟩
   rw[ZH,iP t11,iP (by (try simp only[bb,toN]);exact c7),iQ c8,iP c10]
   try rfl
  refine gE [2,3,4,9,10,11,12,80,81,82,98] ?_
  refine zB ?_ ?_<;>intro c11<;>try simp only[toN]at c11
  ·refine gE [2,3,4,9,10,11,12,80,81,82] ?_
   refine gE [2,3,4,9,10,80,81,82,105] ?_ (hp:=t15)
   refine zP ?_ ?_<;>intro c12<;>try simp only[toN]at c12
   ·refine gE [2,3,4,9,10,80,81,82] ?_
    refine gT ?_
    rw[ym,he,yz,iQ t11,iN (by (try simp only[bb,toN]);exact c3),iN (by (try simp only[bb,toN]);exact c4),iN (by (try simp only[bb,toN]);exact c5),he2,ZH,iP t11,iN (by (try simp only[bb,toN]);exact c7),iP c11,iQ c12];rfl
   refine gE [2,3,4,9,10,80,81,82] ?_
   refine zD ((a10_2,k2+1)) ?_ (hp:=t40) (hm:=by dsimp only;omega)
   refine ⟨by (try simp only[]);omega,he2.trans ?_⟩
   rw[ZH,iP t11,iN (by (try simp only[bb,toN]);exact c7),iP c11,iP c12]
   try rfl
  refine gE [2,3,4,9,10,80,81,82,105] ?_ (hp:=t15)
  refine zP ?_ ?_<;>intro c13<;>try simp only[toN]at c13
  ·refine gE [2,3,4,9,10,80,81,82] ?_
   refine gT ?_
   rw[ym,he,yz,iQ t11,iN (by (try simp only[bb,toN]);exact c3),iN (by (try simp only[bb,toN]);exact c4),iN (by (try simp only[bb,toN]);exact c5),he2,ZH,iP t11,iN (by (try simp only[bb,toN]);exact c7),iQ c11,iQ c13];rfl
  refine gE [2,3,4,9,10,80,81,82] ?_
  refine zD ((a10_2,k2+1)) ?_ (hp:=t40) (hm:=by dsimp only;omega)
  refine ⟨by (try simp only[]);omega,he2.trans ?_⟩
  rw[ZH,iP t11,iN (by (try simp only[bb,toN]);exact c7),iQ c11,iP c13]
  try rfl
 refine gE [2,3,9,10,109] ?_
 refine zB ?_ ?_<;>intro c14<;>try simp only[toN]at c14
 ·refine gE [2,3,9] ?_
  refine gT ?_
  rw[ym,he,yz,iQ t11,iN (by (try simp only[bb,toN]);exact c3),iN (by (try simp only[bb,toN]);exact c4),iN (by (try simp only[bb,toN]);exact c5),he2,ZH,iQ t11,iP c14];rfl
 refine gE [2,3] ?_
 refine gT ?_
 rw[ym,he,yz,iQ t11,iN (by (try simp only[bb,toN]);exact c3),iN (by (try simp only[bb,toN]);exact c4),iN (by (try simp only[bb,toN]);exact c5),he2,ZH,iQ t11,iQ c14];rfl
structure Mch where
 cells:List Cel
deriving DecidableEq
instance :Inhabited Mch:=⟨⟨[]⟩⟩
abbrev mcG (x:Mch):G:= .agg [.d (.row dF ceC x.cells)]
def wL (a b:Cel):Bool:=(a.known==b.known)&&(decide (a.n=b.n)&&(true))
theorem vB (a b:Cel):EqC Tryz.prog 74 [.bool a.known,.int .i64 a.n] [.bool b.known,.int .i64 b.n] (wL a b):=EqC.of Qx rfl rfl (by kernel_rfl) (by kernel_rfl) (.bool Qx rfl rfl rfl rfl (.int Qx rfl rfl rfl rfl .nil))
def YR (x:Int) (y:Int):Int×Int:=(IntKind.u64.wrap ((IntKind.u64.wrap ((IntKind.u64.wrap ((Vz .u64 x 32)*(Vz .u64 y 32)))+(Vz .u64 (IntKind.u64.wrap ((IntKind.u64.wrap ((Vz .u64 x 32)*(YA .u64 y 4294967295)))+(Vz .u64 (IntKind.u64.wrap ((YA .u64 x 4294967295)*(YA .u64 y 4294967295))) 32))) 32)))+(Vz .u64 (IntKind.u64.wrap ((YA .u64 (IntKind.u64.wrap ((IntKind.u64.wrap ((Vz .u64 x 32)*(YA .u64 y 4294967295)))+(Vz .u64 (IntKind.u64.wrap ((YA .u64 x 4294967295)*(YA .u64 y 4294967295))) 32))) 4294967295)+(IntKind.u64.wrap ((YA .u64 x 4294967295)*(Vz .u64 y 32))))) 32)),IntKind.u64.wrap (x*y))
theorem zQu (x:Int) (y:Int):GC Tryz.prog 231 [.d (.sc (.int .u64 x)),.d (.sc (.int .u64 y))] (.tup [.d (.sc (.int .u64 ((YR x y).1))),.d (.sc (.int .u64 ((YR x y).2)))]):=by
 refine zA Tryz.func231 ?_
 refine gE [0,1,4,5] ?_
 refine gE [0,1,4,5,6] ?_
 refine gE [0,1,4,5,6,7] ?_
 refine gE [0,1,4,5,6,7,8] ?_
 refine gE [0,1,4,5,6,7,8,9] ?_
 refine zG env true [] [0,1,4,5,6,7,8,9,10] ?_
 refine zG env true [] [0,1,4,5,6,7,9,11] ?_
 refine gE [0,1,4,5,6,7,9,11,12] ?_
 refine gE [0,1,4,5,6,7,9,12,13] ?_
 refine zG env true [] [0,1,4,5,7,9,12,13] ?_
 refine zG env true [] [0,1,4,5] ?_
 refine zG env true [] [4,5] ?_
 refine gT ?_
 rw[YR];rfl
def XL (a:Int) (b:Int):Int:=if (bif decide (((YR (IntKind.u64.wrap (mxI a (i64.wrap (0-a)))) (IntKind.u64.wrap (mxI b (i64.wrap (0-b))))).1)=0)then decide (((YR (IntKind.u64.wrap (mxI a (i64.wrap (0-a)))) (IntKind.u64.wrap (mxI b (i64.wrap (0-b))))).2)<1099511627776)else false)=true then if (!(decide (a<0)==decide (b<0)))=true then i64.wrap (0-(i64.wrap ((YR (IntKind.u64.wrap (mxI a (i64.wrap (0-a)))) (IntKind.u64.wrap (mxI b (i64.wrap (0-b))))).2)))else i64.wrap ((YR (IntKind.u64.wrap (mxI a (i64.wrap (0-a)))) (IntKind.u64.wrap (mxI b (i64.wrap (0-b))))).2)else if (!(decide (a<0)==decide (b<0)))=true then i64.wrap (0-1099511627776)else 1099511627776
theorem zWr (a:Int) (b:Int):GC Tryz.prog 283 [iG a,iG b] (iG (XL a b)):=by
 refine zA Tryz.func283 ?_
 refine gE [0,1,4] ?_
 refine zG env true [.call (zQu (IntKind.u64.wrap (mxI a (i64.wrap (0-a)))) (IntKind.u64.wrap (mxI b (i64.wrap (0-b)))))] [0,1,4,5,6] ?_
 refine gE [0,1,4,5,6,7] ?_
 refine gE [0,1,4,6,7,27] ?_
 refine zF ?_ ?_<;>intro c1<;>try simp only[bb,toN]at c1
 ·refine zG env true [] [0,1,4,7] ?_
  refine gE [4,7,34] ?_
  refine zF ?_ ?_<;>intro c2<;>try simp only[bb,toN]at c2
  ·refine zG env true [] [4,7] ?_
   refine gT ?_
   rw[XL,iP (show (bif decide (((YR (IntKind.u64.wrap (mxI a (i64.wrap (0-a)))) (IntKind.u64.wrap (mxI b (i64.wrap (0-b))))).1)=0)then decide (((YR (IntKind.u64.wrap (mxI a (i64.wrap (0-a)))) (IntKind.u64.wrap (mxI b (i64.wrap (0-b))))).2)<1099511627776)else false)=true by (try simp only[bb,toN]);exact c1),iP (show (!(decide (a<0)==decide (b<0)))=true by (try simp only[bb,toN]);exact c2)];rfl
  refine gE [4] ?_
  refine gT ?_
  rw[XL,iP (show (bif decide (((YR (IntKind.u64.wrap (mxI a (i64.wrap (0-a)))) (IntKind.u64.wrap (mxI b (i64.wrap (0-b))))).1)=0)then decide (((YR (IntKind.u64.wrap (mxI a (i64.wrap (0-a)))) (IntKind.u64.wrap (mxI b (i64.wrap (0-b))))).2)<1099511627776)else false)=true by (try simp only[bb,toN]);exact c1),iQ (show ¬((!(decide (a<0)==decide (b<0)))=true)by rw[Bool.not_eq_true];(try simp only[bb,toN]);exact c2)];rfl
 refine gE [4,7,34] ?_
 refine zF ?_ ?_<;>intro c3<;>try simp only[bb,toN]at c3
 ·refine zG env true [] [4,7] ?_
  refine gT ?_
  rw[XL,iQ (show ¬((bif decide (((YR (IntKind.u64.wrap (mxI a (i64.wrap (0-a)))) (IntKind.u64.wrap (mxI b (i64.wrap (0-b))))).1)=0)then decide (((YR (IntKind.u64.wrap (mxI a (i64.wrap (0-a)))) (IntKind.u64.wrap (mxI b (i64.wrap (0-b))))).2)<1099511627776)else false)=true)by rw[Bool.not_eq_true];(try simp only[bb,toN]);exact c1),iP (show (!(decide (a<0)==decide (b<0)))=true by (try simp only[bb,toN]);exact c3)];rfl
 refine gE [4] ?_
 refine gT ?_
 rw[XL,iQ (show ¬((bif decide (((YR (IntKind.u64.wrap (mxI a (i64.wrap (0-a)))) (IntKind.u64.wrap (mxI b (i64.wrap (0-b))))).1)=0)then decide (((YR (IntKind.u64.wrap (mxI a (i64.wrap (0-a)))) (IntKind.u64.wrap (mxI b (i64.wrap (0-b))))).2)<1099511627776)else false)=true)by rw[Bool.not_eq_true];(try simp only[bb,toN]);exact c1),iQ (show ¬((!(decide (a<0)==decide (b<0)))=true)by rw[Bool.not_eq_true];(try simp only[bb,toN]);exact c3)];rfl
def JC (op:Int) (a:Int) (b:Int):Int:=if op=9 then (zNm (i64.wrap (a+b)))else if op=10 then (zNm (i64.wrap (a-b)))else if op=11 then (XL a b)else if op=12 then mnI a b else mxI a b
theorem US (op:Int) (a:Int) (b:Int):GC Tryz.prog 275 [iG op,iG a,iG b] (iG (JC op a b)):=by
 refine zA Tryz.func275 ?_
 refine gE [0,1,2,6] ?_
 refine gE [1,2,6,7] ?_
 refine gE [1,2,6,7,8] ?_
 refine zB ?_ ?_<;>intro c1<;>try simp only[toN]at c1
 ·refine zG env true [.call (HA (i64.wrap (a+b)))] [1,2,6] ?_
  refine gT ?_
  rw[JC,iP c1];rfl
 refine gE [1,2,6,7,14] ?_
 refine zB ?_ ?_<;>intro c2<;>try simp only[toN]at c2
 ·refine zG env true [.call (HA (i64.wrap (a-b)))] [1,2,6] ?_
  refine gT ?_
  rw[JC,iQ c1,iP c2];rfl
 refine gE [1,2,6,7,20] ?_
 refine zB ?_ ?_<;>intro c3<;>try simp only[toN]at c3
 ·refine gR [.call (zWr a b)] [1,2,6] ?_
  refine gT ?_
  rw[JC,iQ c1,iQ c2,iP c3];rfl
 refine gE [1,2,6,25] ?_
 refine zB ?_ ?_<;>intro c4<;>try simp only[toN]at c4
 ·refine gE [1,2,6] ?_
  refine gT ?_
  rw[JC,iQ c1,iQ c2,iQ c3,iP c4];rfl
 refine gE [6] ?_
 refine gT ?_
 rw[JC,iQ c1,iQ c2,iQ c3,iQ c4];rfl
def HP (m:Mch) (v:Int):Cel:=if (bif decide ((m.cells.length:Int)<=v)then true else (!(m.cells.getD v.toNat dF).known))=true then ⟨false,0⟩else if ((VO v).1)=1 then (ql (!decide (((m.cells.getD v.toNat dF).n)=0)))else ⟨true,(zNm ((m.cells.getD v.toNat dF).n))⟩
theorem ZBg (m:Mch) (v:Int) (hv:0<=v) (hl:m.cells.length<=9223372036854775807):GC Tryz.prog 246 [mcG m,iG v] (ceG (HP m v)):=by
 refine zA Tryz.func246 ?_
 refine gE [1,2,4] ?_
 refine gE [1,2,4,20] ?_
 refine zF ?_ ?_<;>intro c1<;>try simp only[bb,toN]at c1
 ·refine gE [1,2,4] ?_
  refine gT ?_
  rw[HP,iP (by (try simp only[bb,toN]);exact c1)];rfl
 refine gR [.call (zHk v)] [1,2,4,5] ?_
 refine gE [1,2,4,28] ?_
 refine zB ?_ ?_<;>intro c2<;>try simp only[toN]at c2
 ·refine gR [.call (qb (!decide (((m.cells.getD v.toNat dF).n)=0)))] [1,2,4] ?_
  refine gT ?_
  rw[HP,iN (by (try simp only[bb,toN]);exact c1),iP c2];rfl
 refine gR [.call (HA ((m.cells.getD v.toNat dF).n))] [4] ?_
 refine gT ?_
 rw[HP,iN (by (try simp only[bb,toN]);exact c1),iQ c2];rfl
def yU (op:Int) (l:List Cel):Cel:=if op=3 then if (l.getD 0 dF).known=true then (ql (decide (((l.getD 0 dF).n)=0)))else ⟨false,0⟩else if op=4 then if (bif (wL (l.getD 0 dF) (ql (decide (op=5))))then true else (wL (l.getD 1 dF) (ql (decide (op=5)))))=true then (ql (decide (op=5)))else if (bif (!(l.getD 0 dF).known)then true else (!(l.getD 1 dF).known))=true then ⟨false,0⟩else (ql (decide (op=4)))else if op=5 then if (bif (wL (l.getD 0 dF) (ql (decide (op=5))))then true else (wL (l.getD 1 dF) (ql (decide (op=5)))))=true then (ql (decide (op=5)))else if (bif (!(l.getD 0 dF).known)then true else (!(l.getD 1 dF).known))=true then ⟨false,0⟩else if op=4 then if op=7 then (ql (decide (((l.getD 0 dF).n)<((l.getD 1 dF).n))))else if op=8 then (ql (decide (((l.getD 0 dF).n)=((l.getD 1 dF).n))))else ⟨true,(JC op ((l.getD 0 dF).n) ((l.getD 1 dF).n))⟩else (ql (decide (op=4)))else if op=6 then if (bif (l.getD 1 dF).known then (wL (l.getD 1 dF) (l.getD 2 dF))else false)=true then (l.getD 1 dF)else ⟨false,0⟩else if (bif (!(l.getD 0 dF).known)then true else (!(l.getD 1 dF).known))=true then ⟨false,0⟩else if op=4 then if op=7 then (ql (decide (((l.getD 0 dF).n)<((l.getD 1 dF).n))))else if op=8 then (ql (decide (((l.getD 0 dF).n)=((l.getD 1 dF).n))))else ⟨true,(JC op ((l.getD 0 dF).n) ((l.getD 1 dF).n))⟩else if op=7 then (ql (decide (((l.getD 0 dF).n)<((l.getD 1 dF).n))))else if op=8 then (ql (decide (((l.getD 0 dF).n)=((l.getD 1 dF).n))))else ⟨true,(JC op ((l.getD 0 dF).n) ((l.getD 1 dF).n))⟩
theorem zZp (op:Int) (l:List Cel) (h1:1<=l.length) (h2:op≠3->2<=l.length) (h3:op=6->3<=l.length):GC Tryz.prog 247 [iG op,.d (.row dF ceC l)] (ceG (yU op l)):=by
 refine zA Tryz.func247 ?_
 refine gE [0,1,4] ?_
 refine gE [0,1,4,8] ?_
 refine gE [0,1,4,8,9] ?_
 refine zB ?_ ?_<;>intro c1<;>try simp only[toN]at c1
 ·refine gE [0,1,4,14] ?_
  refine zF ?_ ?_<;>intro c2<;>try simp only[bb,toN]at c2
  ·refine gR [.call (qb (decide (((l.getD 0 dF).n)=0)))] [0,1,4] ?_
   refine gT ?_
   rw[yU,iP c1,iP (by (try simp only[bb,toN]);exact c2)];rfl
  refine gE [0,1,4] ?_
  refine gT ?_
  rw[yU,iP c1,iN (by (try simp only[bb,toN]);exact c2)];rfl
 refine gE [0,1,4,8,22] ?_
 refine zB ?_ ?_<;>intro c3<;>try simp only[toN]at c3
 ·refine zB ?_ ?_<;>intro c4<;>try simp only[toN]at c4
  ·refine gR [.call (qb (decide (op=5)))] [0,1,4,5] ?_
   refine gR [.eq (vB (l.getD 0 dF) (ql (decide (op=5)))),.eq (vB (l.getD 1 dF) (ql (decide (op=5))))] [0,1,4,5,39] ?_
   refine zF ?_ ?_<;>intro c5<;>try simp only[bb,toN]at c5
   ·refine gE [0,1,4] ?_
    refine gT ?_
    rw[yU,iQ c1,iP c3,iP (by (try simp only[bb,toN]);exact c5)];rfl
   refine gE [0,1,4,71] ?_
   refine zF ?_ ?_<;>intro c6<;>try simp only[bb,toN]at c6
   ·refine gE [0,1,4] ?_
    refine gT ?_
    rw[yU,iQ c1,iP c3,iN (by (try simp only[bb,toN]);exact c5),iP (by (try simp only[bb,toN]);exact c6)];rfl
   refine gE [0,4,6,7] ?_
   refine gE [0,4,6,7,81] ?_
   refine gE [0,4,6,7,81,82] ?_
   refine zB ?_ ?_<;>intro c7<;>try simp only[toN]at c7
   ·refine zB ?_ ?_<;>intro c8<;>try simp only[toN]at c8
    ·refine gR [.call (qb (decide (op=4)))] [0,4,6,7] ?_
     refine gT ?_
     rw[yU,iQ c1,iP c3,iN (by (try simp only[bb,toN]);exact c5),iN (by (try simp only[bb,toN]);exact c6)];rfl
    exact absurd c3 c8
   exact absurd c3 c7
  exact absurd c3 c4
 refine gE [0,1,4,8,22] ?_
 refine zB ?_ ?_<;>intro c9<;>try simp only[toN]at c9
 ·refine gR [.call (qb (decide (op=5)))] [0,1,4,5] ?_
  refine gR [.eq (vB (l.getD 0 dF) (ql (decide (op=5)))),.eq (vB (l.getD 1 dF) (ql (decide (op=5))))] [0,1,4,5,39] ?_
  refine zF ?_ ?_<;>intro c10<;>try simp only[bb,toN]at c10
  ·refine gE [0,1,4] ?_
   refine gT ?_
   rw[yU,iQ c1,iQ c3,iP c9,iP (by (try simp only[bb,toN]);exact c10)];rfl
  refine gE [0,1,4,71] ?_
  refine zF ?_ ?_<;>intro c11<;>try simp only[bb,toN]at c11
  ·refine gE [0,1,4] ?_
   refine gT ?_
   rw[yU,iQ c1,iQ c3,iP c9,iN (by (try simp only[bb,toN]);exact c10),iP (by (try simp only[bb,toN]);exact c11)];rfl
  refine gE [0,4,6,7] ?_
  refine gE [0,4,6,7,81] ?_
  refine gE [0,4,6,7,81,82] ?_
  refine zB ?_ ?_<;>intro c12<;>try simp only[toN]at c12
  ·refine zB ?_ ?_<;>intro c13<;>try simp only[toN]at c13
   ·exact absurd c13 c3
   refine gE [0,4,6,7,81,88] ?_
   refine zB ?_ ?_<;>intro c14<;>try simp only[toN]at c14
   ·refine gR [.call (qb (decide (((l.getD 0 dF).n)<((l.getD 1 dF).n))))] [0,4,6,7] ?_
    refine gT ?_
    rw[yU,iQ c1,iQ c3,iP c9,iN (by (try simp only[bb,toN]);exact c10),iN (by (try simp only[bb,toN]);exact c11),iP c12,iP c14];rfl
   refine gE [0,4,6,7,94] ?_
   refine zB ?_ ?_<;>intro c15<;>try simp only[toN]at c15
   ·refine gR [.call (qb (decide (((l.getD 0 dF).n)=((l.getD 1 dF).n))))] [0,4,6,7] ?_
    refine gT ?_
    rw[yU,iQ c1,iQ c3,iP c9,iN (by (try simp only[bb,toN]);exact c10),iN (by (try simp only[bb,toN]);exact c11),iP c12,iQ c14,iP c15];rfl
   refine gR [.call (US op ((l.getD 0 dF).n) ((l.getD 1 dF).n))] [4] ?_
   refine gT ?_
   rw[yU,iQ c1,iQ c3,iP c9,iN (by (try simp only[bb,toN]);exact c10),iN (by (try simp only[bb,toN]);exact c11),iP c12,iQ c14,iQ c15];rfl
  refine gE [0,4,6,7,81,82] ?_
  refine zB ?_ ?_<;>intro c16<;>try simp only[toN]at c16
  ·refine gR [.call (qb (decide (op=4)))] [0,4,6,7] ?_
   refine gT ?_
   rw[yU,iQ c1,iQ c3,iP c9,iN (by (try simp only[bb,toN]);exact c10),iN (by (try simp only[bb,toN]);exact c11),iQ c12];rfl
  exact absurd c9 c16
 refine gE [0,1,4,41] ?_
 refine zB ?_ ?_<;>intro c17<;>try simp only[toN]at c17
 ·refine gR [.eq (vB (l.getD 1 dF) (l.getD 2 dF))] [0,1,4,55] ?_
  refine zF ?_ ?_<;>intro c18<;>try simp only[bb,toN]at c18
  ·refine gE [0,1,4] ?_
   refine gT ?_
   rw[yU,iQ c1,iQ c3,iQ c9,iP c17,iP (by (try simp only[bb,toN]);exact c18)];rfl
  refine gE [0,1,4] ?_
  refine gT ?_
  rw[yU,iQ c1,iQ c3,iQ c9,iP c17,iN (by (try simp only[bb,toN]);exact c18)];rfl
 refine gE [0,1,4,71] ?_
 refine zF ?_ ?_<;>intro c19<;>try simp only[bb,toN]at c19
 ·refine gE [0,1,4] ?_
  refine gT ?_
  rw[yU,iQ c1,iQ c3,iQ c9,iQ c17,iP (by (try simp only[bb,toN]);exact c19)];rfl
 refine gE [0,4,6,7] ?_
 refine gE [0,4,6,7,81] ?_
 refine gE [0,4,6,7,81,82] ?_
 refine zB ?_ ?_<;>intro c20<;>try simp only[toN]at c20
 ·refine zB ?_ ?_<;>intro c21<;>try simp only[toN]at c21
  ·exact absurd c21 c3
  refine gE [0,4,6,7,81,88] ?_
  refine zB ?_ ?_<;>intro c22<;>try simp only[toN]at c22
  ·refine gR [.call (qb (decide (((l.getD 0 dF).n)<((l.getD 1 dF).n))))] [0,4,6,7] ?_
   refine gT ?_
   rw[yU,iQ c1,iQ c3,iQ c9,iQ c17,iN (by (try simp only[bb,toN]);exact c19),iP c20,iP c22];rfl
  refine gE [0,4,6,7,94] ?_
  refine zB ?_ ?_<;>intro c23<;>try simp only[toN]at c23
  ·refine gR [.call (qb (decide (((l.getD 0 dF).n)=((l.getD 1 dF).n))))] [0,4,6,7] ?_
   refine gT ?_
   rw[yU,iQ c1,iQ c3,iQ c9,iQ c17,iN (by (try simp only[bb,toN]);exact c19),iP c20,iQ c22,iP c23];rfl
  refine gR [.call (US op ((l.getD 0 dF).n) ((l.getD 1 dF).n))] [4] ?_
  refine gT ?_
  rw[yU,iQ c1,iQ c3,iQ c9,iQ c17,iN (by (try simp only[bb,toN]);exact c19),iP c20,iQ c22,iQ c23];rfl
 refine gE [0,4,6,7,81,82] ?_
 refine zB ?_ ?_<;>intro c24<;>try simp only[toN]at c24
 ·exact absurd c24 c9
 refine gE [0,4,6,7,81,88] ?_
 refine zB ?_ ?_<;>intro c25<;>try simp only[toN]at c25
 ·refine gR [.call (qb (decide (((l.getD 0 dF).n)<((l.getD 1 dF).n))))] [0,4,6,7] ?_
  refine gT ?_
  rw[yU,iQ c1,iQ c3,iQ c9,iQ c17,iN (by (try simp only[bb,toN]);exact c19),iQ c20,iP c25];rfl
 refine gE [0,4,6,7,94] ?_
 refine zB ?_ ?_<;>intro c26<;>try simp only[toN]at c26
 ·refine gR [.call (qb (decide (((l.getD 0 dF).n)=((l.getD 1 dF).n))))] [0,4,6,7] ?_
  refine gT ?_
  rw[yU,iQ c1,iQ c3,iQ c9,iQ c17,iN (by (try simp only[bb,toN]);exact c19),iQ c20,iQ c25,iP c26];rfl
 refine gR [.call (US op ((l.getD 0 dF).n) ((l.getD 1 dF).n))] [4] ?_
 refine gT ?_
 rw[yU,iQ c1,iQ c3,iQ c9,iQ c17,iN (by (try simp only[bb,toN]);exact c19),iQ c20,iQ c25,iQ c26];rfl
def Vc (l:List Int):List D:=[.row dF inC l]
def nlC:Option (List Int)->List D
 |none=>[.sc (.slice none 0 0)]
 |some l=>[.row dF inC l]
theorem zQp (l:List (List Int)):zR nlC (l.map some)=zR Vc l:=by simp[zR,nlC,Vc]
def Jg {β:Type} (g:Tm->β) (d:β) (l:List Tm) (k:Nat):List β:=(l.take k).map g++List.replicate (l.length-k) d
theorem Wi {β:Type} (g:Tm->β) (d:β) (l:List Tm) (k:Nat):(Jg g d l k).length=l.length:=by simp[Jg];omega
theorem ZCs {β:Type} (g:Tm->β) (d:β) (l:List Tm):Jg g d l 0=List.replicate l.length d:=by simp[Jg]
theorem ZCr {β:Type} (g:Tm->β) (d:β) {l:List Tm} {k:Nat} (h:¬k<l.length):Jg g d l k=l.map g:=by
 rw[Jg,List.take_of_length_le t11,show l.length-k=0 by omega];simp
theorem zAi {β:Type} (g:Tm->β) (d:β) {l:List Tm} {k:Nat} (h:k<l.length):(Jg g d l k).set k (g (l.getD k dF))=Jg g d l (k+1):=by
 have hl:((l.take k).map g).length=k:=by simp;omega
 rw[Jg,List.set_append_right _ _ t11,hl,Nat.sub_self,show l.length-k=(l.length-(k+1))+1 by omega,List.replicate_succ,List.set_cons_zero,Jg,vS h,List.map_append]
 simp
def jm (f:Tm->Cel×List Int) (m:Mch) (t:Tm):Cel×List Int:=
 if t.op=0∨t.op=1 then (⟨true,t.n⟩,[])else if t.op=2 then if (HP m t.n).known=true then (HP m t.n,[])else (⟨false,0⟩,[t.n])else
 if t.op=6/\((t.args.map fun a=>(f a).1).getD 0 dF).known=true then
  ((t.args.map fun a=>(f a).1).getD (2-((t.args.map fun a=>(f a).1).getD 0 dF).n).toNat dF,(t.args.map fun a=>(f a).2).getD (2-((t.args.map fun a=>(f a).1).getD 0 dF).n).toNat dF)
 else if (yU t.op (t.args.map fun a=>(f a).1)).known=true then (yU t.op (t.args.map fun a=>(f a).1),[])else (⟨false,0⟩,(t.args.map fun a=>(f a).2).flatten)
def Vf:Go.Shelf.Ren:=⟨fun|4=>276|n=>n,fun|0=>0|3=>3|4=>4|9=>9|20=>20|22=>68|25=>3|n=>n,fun n=>n⟩
theorem zBk:Go.Proofs.Lays8.n4 Tryz.prog Vf:= {
 mixed:=by kernel_rfl
 f4:=⟨ "slices.Grow[[]int,int]",by kernel_rfl,Tryz.func276.trans (congrArg some (by kernel_rfl))⟩
 t0:=Tryz.underlying0
 a0:=Tryz.isAgg0
 z0:=Tryz.sizeOf0
 v0:=Tryz.zeroValue0
 t3:=Tryz.underlying3
 a3:=Tryz.isAgg3
 z3:=Tryz.sizeOf3
 v3:=Tryz.zeroValue3
 t4:=Tryz.underlying4
 a4:=Tryz.isAgg4
 z4:=Tryz.sizeOf4
 v4:=Tryz.zeroValue4
 t9:=Tryz.underlying9
 a9:=Tryz.isAgg9
 z9:=Tryz.sizeOf9
 v9:=Tryz.zeroValue9
 t20:=Tryz.underlying20
 a20:=Tryz.isAgg20
 z20:=Tryz.sizeOf20
 v20:=Tryz.zeroValue20
 t22:=Tryz.underlying68
 a22:=Tryz.isAgg68
 z22:=Tryz.sizeOf68
 v22:=Tryz.zeroValue68}
theorem zYt (n:Nat) (hn:n<=1000):GM Tryz.prog 276 [.d (.sc (.slice none 0 0)),.d (.sc (.int .i64 n))] [] (.sl 0 1 0 0) [some (.row 3 1 (dF:Int) inC [] 0)]:=by
 refine zSk (vs:= #[.slice none 0 0,.int .i64 n]) Tryz.func276 rfl rfl dF inC (fun ν F w us hv=> ?_) fun w=> ?_
 ·obtain ⟨l⟩:=us
  match l,hv.1 with
  | [a,b],_=>
    have h0:=hv.2 0 _ a rfl rfl
    have h1:=hv.2 1 _ b rfl rfl
    rw[h0.sc_eq.1,h1.sc_eq.1]
 by_cases h:n=0
 ·subst h
  exact (Go.Proofs.Any8.slices_Grow_room zBk none 0 0 0 w (Nat.le_refl _) t11 t11 (Nat.le_refl _)).mono fun e w' he=> .inl he
 obtain ⟨i0,hi0,hs0,hb0,hz0⟩:=(env.ty 3 _ rfl).info
 have hs1:i0.size=1:=hs0
 have hb1:i0.bytes=8:=hb0
 have hz1:i0.zero=some (.int .i64 0):=hz0
 refine (Go.Proofs.Any8.slices_Grow_grow zBk i0 (.int .i64 0) hi0 hz1 t11 none 0 0 n [] w (Nat.le_refl _) t11 (by rw[hb1];omega) t11 t25 (fun _=>rfl) (fun a h=>by cases h)).mono fun e w' ⟨he,hw⟩=> .inr ?_
 have hge:=grownCap_ge w (0+n) 0 (Vf.t 25)
 have hle:=grownCap_le_maxLen w (0+n) 0 (Vf.t 25) (by unfold maxLen;omega)
 refine ⟨_,_,he,hw,hle,?_,fun u hu=> ?_⟩
 ·generalize grownCap w (0+n) 0 (Vf.t 25)=q at*
  have e:∀m,(Builtin.zeroCells (Value.cells (.int .i64 0)) m).size=m:=fun m=>by
   show ((Array.range (m*1)).map _).size=m
   simp
  rw[Array.size_append,Array.size_append,e,e]
  simp
  omega
 have hone:∀m,∀u,u∈Builtin.zeroCells (Value.cells (.int .i64 0)) m->u= .int .i64 0:=fun m u hu=>by
  obtain ⟨i,_,rfl⟩:=Array.mem_map.1 hu
  show (#[Value.int .i64 0])[i % 1]! =_
  rw[Nat.mod_one];rfl
 simp only[Array.toList_append,List.mem_append,Array.mem_toList_iff]at hu
 rcases hu with (hu|hu)|hu
 ·simp at hu
 ·rw[hone _ u hu];rfl
 rw[hone _ u hu];rfl
theorem zNo (ls:List (List Int)) (h:ls.flatten.length<=1000) (hl:ls.length<=1000):GC Tryz.prog 248 [.d (.row dF Vc ls)] (qq ls.flatten):=by
 have hpre:∀k,k<ls.length->(ls.take (k+1)).flatten=(ls.take k).flatten++ls.getD k dF:=fun k hk=>by
  rw[List.take_succ_eq_append_getElem hk,List.flatten_append,List.getD_eq_getElem?_getD,List.getElem?_eq_getElem hk];simp
 have hbnd:∀k,(ls.take k).flatten.length<=1000:=fun k=>by
  have e:ls.flatten=(ls.take k).flatten++(ls.drop k).flatten:=by rw[<-List.flatten_append,List.take_append_drop]
  rw[e,List.length_append]at h;omega
 refine zA Tryz.func248 ?_
 refine gE [0,2] ?_
 refine gE [0,2,3] ?_
 refine gE [0,2,3,9,10,11] ?_
 refine zI (α:=Int×Nat) (fun x=>x.2<=ls.length/\x.1=((ls.take x.2).flatten.length:Int)) (fun x=>[(3,iG x.1),(11,iG x.2)]) (fun _=>[]) (fun x=>ls.length-x.2) (0,0) ⟨Nat.zero_le _,rfl⟩ ?_ (hp:=t43)
 rintro ⟨s,k⟩ ⟨hk,hs⟩
 dsimp only at hk hs⊢
 refine gE [0,2,3,9,10,11,12] ?_
 refine zB (fun c1=> ?_) (fun c1=> ?_)
 ·have hk2:k<ls.length:=by omega
  have hb:=hbnd (k+1)
  have hst:s+((ls.getD k dF).length:Int)=((ls.take (k+1)).flatten.length:Int):=by rw[hpre k hk2,List.length_append,hs];omega
  have hw:IntKind.i64.wrap (s+((ls.getD k dF).length:Int))=((ls.take (k+1)).flatten.length:Int):=by rw[hst];exact zT (by unfold inR;omega)
  refine gP [] [0,2,3,5,9,10,11] ?_
  refine gP [] [0,2,3,9,10,11] ?_
  refine gE [0,2,3,9,10,11,20] ?_
  refine zB (fun c2=> ?_) (fun c2=> ?_)
  ·exact absurd c2 (by first|omega|(rw[hw];omega))
  refine gP [] [0,2,3,9,10,11] ?_
  exact zD (_,k+1) ⟨hk2,by first|exact hst|exact hw⟩ (hp:=t43) (hm:=by dsimp only;omega)
 have e:k=ls.length:=by omega
 rw[e,List.take_length]at hs
 subst hs
 refine gR [.callm [] (zYt ls.flatten.length t11)] [0,2,6] ?_
 refine gE [2,6,25,26,27] ?_
 refine zI (α:=List Int×Nat) (fun x=>x.2<=ls.length/\x.1=(ls.take x.2).flatten) (fun x=>[(27,iG x.2),(6,.sl 0 1 0 x.1.length)]) (fun x=>[(0,some (.row 3 1 (dF:Int) inC x.1 0))]) (fun x=>ls.length-x.2) ([],0) ⟨Nat.zero_le _,rfl⟩ ?_ (hp:=t43)
 rintro ⟨xs,j⟩ ⟨hj,hxs⟩
 dsimp only at hj hxs⊢
 refine gE [2,6,25,26,27,28] ?_
 refine zB (fun c3=> ?_) (fun c3=> ?_)
 ·have hj2:j<ls.length:=by omega
  have hst:=hpre j hj2
  have hb:=hbnd (j+1)
  rw[<-hxs]at hst
  rw[hst,List.length_append]at hb
  refine gP [] [2,6,8,25,26,27] ?_
  refine gU [.el dF inC (xs++ls.getD j dF)] [2,6,25,26,27] ?_
  refine gP [] [2,6,25,26,27] ?_
  exact zD (xs++ls.getD j dF,j+1) ⟨hj2,hst.symm⟩ (hp:=t43) (hm:=by dsimp only;omega)
 have e2:j=ls.length:=by omega
 rw[e2,List.take_length]at hxs
 refine gE [2] ?_
 refine gT ?_ (hp:=by simp only[zC];repeat' first|exact trivial|omega|apply And.intro)
 rw[<-hxs];rfl
theorem zWd (f:Tm->Cel×List Int) (m:Mch) (t:Tm) (d:Nat) (hf:∀j,d=j+1->∀i,i<t.args.length->GC Tryz.prog 217 [mcG m,Qw j (t.args.getD i dF)] (.tup [ceG (f (t.args.getD i dF)).1,qq (f (t.args.getD i dF)).2])) (ht:Yf d t) (hm:m.cells.length<=9223372036854775807) (hv:t.op=2->0<=t.n) (h1:¬t.op=0->¬t.op=1->¬t.op=2->1<=t.args.length/\(t.op≠3->2<=t.args.length)/\(t.op=6->3<=t.args.length)/\t.args.length<=3) (h6:t.op=6->(f (t.args.getD 0 dF)).1.known=true->0<=(f (t.args.getD 0 dF)).1.n/\(f (t.args.getD 0 dF)).1.n<=1) (hs:(t.args.map fun a=>(f a).2).flatten.length<=1000):GC Tryz.prog 217 [mcG m,Qw d t] (.tup [ceG (jm f m t).1,qq (jm f m t).2]):=by
 have hl:=ht.len
 refine zA Tryz.func217 ?_
 refine gE [2,3,4,5] ?_
 refine gE [2,3,4,5,14] ?_
 refine gE [2,3,4,5,14,15] ?_
 refine zB ?_ ?_<;>intro c1<;>try simp only[toN]at c1
 ·refine zB ?_ ?_<;>intro c2<;>try simp only[toN]at c2
  ·refine gE [2,3,4,5] ?_
   refine Zq env ?_
   rw[jm,iP (.inl c1)];exact Ent.tup ⟨Ent.refl _,Ent.nil,trivial⟩
  exact absurd c1 c2
 refine gE [2,3,4,5,14,15] ?_
 refine zB ?_ ?_<;>intro c3<;>try simp only[toN]at c3
 ·refine gE [2,3,4,5] ?_
  refine Zq env ?_
  rw[jm,iP (.inr c3)];exact Ent.tup ⟨Ent.refl _,Ent.nil,trivial⟩
 refine gE [2,3,4,5,21] ?_
 refine zB ?_ ?_<;>intro c4<;>try simp only[toN]at c4
 ·refine gR [.call (ZBg m t.n (hv t12) hm)] [2,3,4,5,6] ?_
  refine gE [2,3,4,5,6,28] ?_
  refine zF ?_ ?_<;>intro c5<;>try simp only[bb,toN]at c5
  ·refine gE [2,3,4,5] ?_
   refine Zq env ?_
   rw[jm,iQ t11,iP c4,iP c5];exact Ent.tup ⟨Ent.refl _,Ent.nil,trivial⟩
  refine gR [.el dF inC [t.n]] [2,3,4,5] ?_
  refine gT ?_
  rw[jm,iQ t11,iP c4,iQ (by rw[c5];simp)];rfl
 refine gR [.el dF ceC (List.replicate t.args.length dF)] [2,3,4,5,7] ?_ (hp:=t29)
 refine gR [.el dF nlC (List.replicate t.args.length none)] [2,3,4,5,7,8] ?_ (hp:=t29)
 refine gE [2,3,4,5,7,8,43,44,45] ?_
 refine zI (α:=Nat) (fun k=>k<=t.args.length) (fun k=>[(45,iG k),(7,.sl 3 2 0 (Jg (fun a=>(f a).1) dF t.args k).length),(8,.sl 4 1 0 (Jg (fun a=>some (f a).2) none t.args k).length)]) (fun k=>[(3,some (.row 74 2 dF ceC (Jg (fun a=>(f a).1) dF t.args k) 0)),(4,some (.row 68 1 dF nlC (Jg (fun a=>some (f a).2) none t.args k) 0))]) (fun k=>t.args.length-k) 0 t11 ?_ (hp:=by simp[zC,ZCs,zR]<;>rfl)
 rintro k hk
 refine gE [2,3,4,5,7,8,43,44,45,46] ?_
 refine zB ?_ ?_<;>intro c6<;>try simp only[toN]at c6
 ·obtain ⟨j,rfl,hfa⟩:=ht.at_ (i:=k) t11
  refine gE [2,3,4,5,7,8,9,10,43,44,45] ?_
  refine gR [.call (hf _ rfl k t11),.el dF ceC (Jg (fun a=>(f a).1) dF t.args (k+1)),.el dF nlC (Jg (fun a=>some (f a).2) none t.args (k+1))] [2,3,4,5,7,8,43,44,45] ?_ (hp:=(by simp only[zC,bb,toN,Wi];repeat' first|exact trivial|exact zH.refl _|exact zE.refl _|exact rfl|exact Nat.le_refl _|omega|apply And.intro|intro _|(rw[<-zAi _ _ t11];exact (ZW (cs:=ceC) (by rw[Wi];omega) rfl t26).symm)|(rw[<-zAi _ _ t11];exact (ZW (cs:=nlC) (x:=some (f (t.args.getD k dF)).2) (by rw[Wi];omega) rfl (by cases (Jg (fun a=>some (f a).2) none t.args k).getD k dF<;>rfl)).symm)))
  refine gE [2,3,4,5,7,8,43,44,45] ?_
  refine zD (k+1) ?_ (hp:=by simp[zC,Wi])
  omega
 obtain ⟨hA,hB,hC,hD⟩:=h1 t12 t12 t12
 simp only[ZCr _ _ (show ¬k<t.args.length by omega)]
 have eN:(t.args.map fun a=>some (f a).2)=(t.args.map fun a=>(f a).2).map some:=by rw[List.map_map];rfl
 simp only[eN]
 refine jB 4 ?_
 refine ZEa 8 (.d (.row dF Vc (t.args.map fun a=>(f a).2))) (Ent.rowEq (zQp _)) ?_
 have e0:(t.args.map fun a=>(f a).1).getD 0 dF=(f (t.args.getD 0 dF)).1:=by simp[List.getD_eq_getElem?_getD,List.getElem?_eq_getElem (show 0<t.args.length by omega)]
 have eL:(t.args.map fun a=>(f a).1).length=t.args.length:=by simp
 have eM:(t.args.map fun a=>(f a).2).length=t.args.length:=by simp
 refine gE [3,4,5,7,8,71] ?_ (hp:=(by simp only[zC,bb,toN,eL];repeat' first|exact trivial|exact zH.refl _|exact zE.refl _|exact rfl|exact Nat.le_refl _|omega|apply And.intro|intro _))
 refine zF ?_ ?_<;>intro c7<;>try simp only[bb,toN]at c7
 ·have h6a:=h6 c7.1 (by rw[<-e0];exact c7.2)
  rw[<-e0]at h6a
  have hC:=hC c7.1
  refine gE [3,4,5,7,8,11] ?_
  refine gE [3,4,5,7,8] ?_ (hp:=(by simp only[zC,bb,toN,eL,eM];repeat' first|exact trivial|exact zH.refl _|exact zE.refl _|exact rfl|exact Nat.le_refl _|omega|apply And.intro|intro _))
  refine gT ?_
  rw[jm,iQ t11,iQ c4,iP c7];simp only[toN];rfl
 refine gR [.call (zZp t.op (t.args.map fun a=>(f a).1) t11 t11 t11)] [4,5,8,12] ?_
 refine gE [4,5,8,12,90] ?_
 refine zF ?_ ?_<;>intro c8<;>try simp only[bb,toN]at c8
 ·refine gE [4,5,8] ?_
  refine Zq env ?_
  rw[jm,iQ t11,iQ c4,iQ (by intro h;rcases c7 with c7|c7<;>simp_all),iP c8];exact Ent.tup ⟨Ent.refl _,Ent.nil,trivial⟩
 refine gR [.call (zNo (t.args.map fun a=>(f a).2) hs t11)] [4,5] ?_
 refine gT ?_
 rw[jm,iQ t11,iQ c4,iQ (by intro h;rcases c7 with c7|c7<;>simp_all),iQ (by rw[c8];simp)];rfl
theorem zZt (f:Tm->Int×Int) (t:Tm):∀(n i:Nat) (acc:List Int),t.args.length-i=n->i<=t.args.length->acc.length=t.args.length->(yz f t acc i).2=0→
 (∀j,i<=j->j<t.args.length->(f (t.args.getD j dF)).2=0)/\∃acc',acc'.length=t.args.length/\(∀j,i<=j->j<t.args.length->acc'.getD j dF=(f (t.args.getD j dF)).1)/\(∀j,j<i->acc'.getD j dF=acc.getD j dF)/\yz f t acc i=yz f t acc' t.args.length:=by
 intro n
 induction n with
 |zero=>
  intro i acc h hi hl h0
  obtain rfl:i=t.args.length:=by omega
  exact ⟨fun j a b=>by omega,acc,hl,fun j a b=>by omega,fun j _=>rfl,rfl⟩
 |succ n ih=>
  intro i acc h hi hl h0
  rw[yz,iP t11]at h0
  rw[yz,iP t11]
  split at h0
  ·rename_i hc
   rw[iP hc]
   obtain ⟨h1,acc',h2,h3,h4,h5⟩:=ih (i+1) _ t11 t11 (by rw[List.length_set];exact hl) h0
   refine ⟨fun j a b=> ?_,acc',h2,fun j a b=> ?_,fun j a=> ?_,h5⟩
   ·by_cases e:j=i
    ·subst e;exact hc
    exact h1 j t11 b
   ·by_cases e:j=i
    ·subst e
     rw[h4 j t11,List.getD_eq_getElem?_getD,List.getElem?_set_self t11];rfl
    exact h3 j t11 b
   rw[h4 j t11,List.getD_eq_getElem?_getD,List.getElem?_set_ne t11,<-List.getD_eq_getElem?_getD]
  rename_i hc;exact absurd h0 hc
theorem UH {f:Tm->Int×Int} {t:Tm} (h:(ym f t).2=0):(∀j,j<t.args.length->(f (t.args.getD j dF)).2=0)∧
 (((t.op=0∨t.op=1∨t.op=2)/\ym f t=Ym t)∨(3<=t.op/\t.op<=13/\t.args.length=(zi t.op).args.length/\∃acc,(∀j,j<t.args.length->acc.getD j dF=(f (t.args.getD j dF)).1)/\ym f t=ZH f t acc t.args.length (-1) 0)):=by
 rw[ym]at h⊢
 obtain ⟨h1,acc,h2,h3,_,h5⟩:=zZt f t _ 0 _ rfl (Nat.zero_le _) t25 h
 refine ⟨fun j hj=>h1 j (Nat.zero_le _) hj,?_⟩
 rw[h5]at h⊢
 rw[yz,iQ t11]at h⊢
 split at h
 ·cases h
 rename_i c1
 rw[iQ c1]
 rw[Bool.not_eq_true]at c1
 simp only[bb]at c1
 split at h
 ·rename_i c2
  rw[iP c2]
  simp only[bb]at c2
  exact .inl ⟨by omega,rfl⟩
 rename_i c2
 rw[iQ c2]
 rw[Bool.not_eq_true]at c2
 simp only[bb]at c2
 split at h
 ·cases h
 rename_i c3
 rw[iQ c3]
 rw[Bool.not_eq_true]at c3
 simp only[bb]at c3
 exact .inr ⟨by omega,by omega,by omega,acc,fun j hj=>h3 j (Nat.zero_le _) hj,rfl⟩
theorem zIp {t:Tm} (h:(Ym t).2=0) (_:t.op=0∨t.op=1∨t.op=2):t.args= []/\(t.op=2->0<=t.n/\(Ym t).1=(VO t.n).1)/\(t.op=1->0<=t.n/\t.n<=1)/\(t.op=0->(Ym t).1=0):=by
 unfold Ym at h⊢
 split at h
 ·cases h
 rename_i c1
 rw[iQ c1]
 refine ⟨List.eq_nil_of_length_eq_zero t11,?_⟩
 split at h
 ·rename_i c2;rw[iP c2]
  refine ⟨fun e=>by omega,fun e=>by omega,fun _=> ?_⟩
  split<;>rfl
 rename_i c2
 rw[iQ c2]
 split at h
 ·rename_i c3
  rw[iP c3]
  refine ⟨fun e=>by omega,fun _=> ?_,fun e=>by omega⟩
  split at h
  ·cases h
  rename_i c4
  rw[Bool.not_eq_true]at c4
  simp only[bb]at c4
  exact c4
 rename_i c3
 rw[iQ c3]
 refine ⟨fun _=> ?_,fun e=>by omega,fun e=>by omega⟩
 split at h
 ·cases h
 rename_i c4
 rw[iQ c4]
 refine ⟨?_,rfl⟩
 rw[Bool.not_eq_true]at c4
 unfold VO at c4
 split at c4
 ·cases c4
 rename_i c5
 rw[Bool.not_eq_true]at c5
 simp only[bb]at c5
 exact c5.1
theorem zGg {f:Tm->Int×Int} {t:Tm} {acc:List Int} {n:Nat} (ho:t.op=6) (hm:¬acc[1]?.getD 0= -1) (h:(ZH f t acc n (-1) 0).2=0):acc[0]?.getD 0=1/\acc[1]?.getD 0=acc[2]?.getD 0/\(ZH f t acc n (-1) 0).1=acc[1]?.getD 0:=by
 have hs:zi t.op=⟨[1,(-1),(-1)],(-1)⟩:=by rw[ho];rfl
 rw[ZH,hs]at h⊢
 simp at h⊢
 split at h
 ·rename_i h0
  rw[ZH,hs]at h
  simp at h
  rw[iP h0]
  rw[ZH,hs]
  simp
  refine ⟨h0,?_⟩
  rw[ZH,hs]at h⊢
  simp[hm]at h⊢
  split at h
  ·rename_i h2
   rw[iP h2,ZH,iQ (by rw[hs];simp)]
   simp[hs]
   exact h2.symm
  cases h
 cases h
theorem UI {f:Tm->Int×Int} {t:Tm} {acc:List Int} {m:Nat} (hr:¬(zi t.op).result= -1):∀(n k:Nat) (a:Int),(zi t.op).args.length-k=n->(ZH f t acc m a k).2=0->(ZH f t acc m a k).1=(zi t.op).result:=by
 intro n
 induction n with
 |zero=>intro k a hk;rw[ZH,iQ t11,iQ hr];exact fun _=>rfl
 |succ n ih=>
  intro k a hk
  rw[ZH,iP t11]
  repeat' split
  all_goals first|exact ih _ _ t11|(intro h;cases h)
def jb:Nat->Tm->Int×Int
 |0=>ym fun _=>(0,0)
 |k+1=>ym (jb k)
theorem zUa:∀(k:Nat) (t:Tm),Yf k t->GC Tryz.prog 245 [Qw k t] (.tup [iG (jb k t).1,iG (jb k t).2]):=by
 intro k
 induction k with
 |zero=>intro t h;exact zJh _ t 0 (fun j e=>by omega) h
 |succ k ih=>intro t h;exact zJh (jb k) t (k+1) (fun j e=>by cases e;exact ih) h
theorem zAw (t:Tm):(Ym t).1=0∨(Ym t).1=1:=by
 unfold Ym
 repeat' split
 all_goals first|exact .inl rfl|exact .inr rfl|skip
 unfold VO
 repeat' split
 all_goals first|exact .inl rfl|exact .inr rfl
theorem vT (o:Int):o=6/\(zi o).result= -1/\(zi o).args.length=3∨¬o=6/\((zi o).result=0∨(zi o).result=1):=by
 by_cases h:o=6
 ·subst h;exact .inl ⟨rfl,rfl,rfl⟩
 refine .inr ⟨h,?_⟩
 unfold zi
 repeat' split
 all_goals first|exact .inl rfl|exact .inr rfl|omega
theorem zJg:∀(k:Nat) (t:Tm),Yf k t->(jb k t).2=0->(jb k t).1=0∨(jb k t).1=1:=by
 intro k
 induction k with
 |zero=>
  intro t ht h
  have ha:t.args= []:=ht
  obtain ⟨_,h2⟩:=UH (show (ym (fun _=>(0,0)) t).2=0 from h)
  rcases h2 with ⟨_,h3⟩|⟨_,_,h3,acc,h4,h5⟩
  ·show (ym _ t).1=0∨(ym _ t).1=1
   rw[h3];exact zAw t
  show (ym _ t).1=0∨(ym _ t).1=1
  have h':(ym (fun _=>(0,0)) t).2=0:=h
  rw[h5]at h'⊢
  rcases vT t.op with ⟨_,_,hl⟩|⟨hn,hr⟩
  ·rw[ha,hl]at h3;cases h3
  rw[UI t11 _ _ _ rfl h'];exact hr
 |succ k ih=>
  intro t ht h
  obtain ⟨h1,h2⟩:=UH (show (ym (jb k) t).2=0 from h)
  have h':(ym (jb k) t).2=0:=h
  rcases h2 with ⟨_,h3⟩|⟨_,_,h3,acc,h4,h5⟩
  ·show (ym _ t).1=0∨(ym _ t).1=1
   rw[h3];exact zAw t
  show (ym _ t).1=0∨(ym _ t).1=1
  rw[h5]at h'⊢
  rcases vT t.op with ⟨ho,_,hl⟩|⟨hn,hr⟩
  ·have e1:=h4 1 t11
   rw[List.getD_eq_getElem?_getD]at e1
   have hi:=ih _ (ht.2 _ (zJ (l:=t.args) (i:=1) t11)) (h1 1 t11)
   have e1':acc[1]?.getD 0=(jb k (t.args.getD 1 dF)).1:=e1
   rw[(zGg ho (by rw[e1'];omega) h').2.2,e1']
   exact hi
  rw[UI t11 _ _ _ rfl h'];exact hr
def Bl (c:Cel):Prop:=c.known=true->0<=c.n/\c.n<=1
theorem zOd (b:Bool):Bl (ql b):=by cases b<;>(intro _;decide)
theorem Vu:Bl ⟨false,0⟩:=fun h=>by cases h
theorem ZBh (m:Mch) {v:Int} (h:(VO v).1=1):Bl (HP m v):=by
 unfold HP
 split
 ·exact Vu
 exact zOd _
theorem zJd {op:Int} (l:List Cel) (h:op=3∨op=4∨op=5∨op=7∨op=8∨op=6/\Bl (l.getD 1 dF)):Bl (yU op l):=by
 unfold yU
 repeat' split
 all_goals first|exact zOd _|exact Vu|(exfalso;omega)|(rcases h with h|h|h|h|h|h<;>first|(exfalso;omega)|exact h.2)
theorem zDy {o:Int} (h6:¬o=6) (h:(zi o).result=1):o=3∨o=4∨o=5∨o=7∨o=8:=by
 unfold zi at h
 repeat' split at h
 all_goals first|omega|(simp at h)
def VQ (m:Mch):Nat->Tm->Cel×List Int
 |0=>jm (fun _=>(dF,[])) m
 |k+1=>jm (VQ m k) m
theorem zHx (m:Mch) {f:Tm->Int×Int} {g:Tm->Cel×List Int} {t:Tm} (h:(ym f t).2=0) (h1:(ym f t).1=1) (HB:∀j,j<t.args.length->(f (t.args.getD j dF)).2=0->(f (t.args.getD j dF)).1=1->Bl (g (t.args.getD j dF)).1) (HT:∀j,j<t.args.length->(f (t.args.getD j dF)).2=0->¬(f (t.args.getD j dF)).1= -1):Bl (jm g m t).1:=by
 obtain ⟨ha,hk⟩:=UH h
 rcases hk with ⟨ho,hl⟩|⟨h3,h13,hlen,acc,hacc,hc⟩
 ·rw[hl]at h h1
  obtain ⟨_,l2,l1,l0⟩:=zIp h ho
  unfold jm
  rcases ho with ho|ho|ho
  ·have:=l0 ho;omega
  ·rw[iP (.inr ho)];exact fun _=>l1 ho
  rw[iQ t11,iP ho]
  split
  ·exact ZBh m (by rw[<-(l2 ho).2];exact h1)
  exact Vu
 rw[hc]at h h1
 have hg:∀j,j<t.args.length->(t.args.map fun a=>(g a).1).getD j dF=(g (t.args.getD j dF)).1:=fun j hj=>by
  simp[List.getD_eq_getElem?_getD,List.getElem?_eq_getElem hj]
 unfold jm
 rw[iQ t11,iQ t11]
 rcases vT t.op with ⟨ho,_,hl⟩|⟨hn,hr⟩
 ·have hlen:t.args.length=3:=by omega
  have e0:=hacc 0 t11
  have e1:=hacc 1 t11
  have e2:=hacc 2 t11
  rw[List.getD_eq_getElem?_getD]at e0 e1 e2
  have e1':acc[1]?.getD 0=(f (t.args.getD 1 dF)).1:=e1
  have e0':acc[0]?.getD 0=(f (t.args.getD 0 dF)).1:=e0
  have e2':acc[2]?.getD 0=(f (t.args.getD 2 dF)).1:=e2
  obtain ⟨q0,q1,q2⟩:=zGg ho (by rw[e1'];exact HT 1 t11 (ha 1 t11)) h
  rw[q2,e1']at h1
  have b0:=HB 0 t11 (ha 0 t11) (by rw[<-e0',q0])
  have b1:=HB 1 t11 (ha 1 t11) h1
  have b2:=HB 2 t11 (ha 2 t11) (by rw[<-e2',<-q1,e1'];exact h1)
  split
  ·rename_i hk
   have hk2:=hk.2
   rw[hg 0 t11]at hk2
   have:=b0 hk2
   show Bl ((t.args.map fun a=>(g a).1).getD _ dF)
   rw[hg 0 t11]
   have hx:(2-(g (t.args.getD 0 dF)).1.n).toNat=1∨(2-(g (t.args.getD 0 dF)).1.n).toNat=2:=by omega
   rcases hx with hx|hx
   ·rw[hx,hg 1 t11];exact b1
   rw[hx,hg 2 t11];exact b2
  split
  ·exact zJd _ (.inr (.inr (.inr (.inr (.inr ⟨ho,by rw[hg 1 t11];exact b1⟩)))))
  exact Vu
 rw[UI t11 _ _ _ rfl h]at h1
 have hb:=zDy hn h1
 rw[iQ (by intro x;exact hn x.1)]
 split
 ·exact zJd _ t11
 exact Vu
theorem zWc (m:Mch):∀(k:Nat) (t:Tm),Yf k t->(jb k t).2=0->(jb k t).1=1->Bl (VQ m k t).1:=by
 intro k
 induction k with
 |zero=>
  intro t ht h h1
  have ha:t.args= []:=ht
  exact zHx m (f:=fun _=>(0,0)) h h1 (fun j hj=>by rw[ha]at hj;simp at hj) (fun j hj=>by rw[ha]at hj;simp at hj)
 |succ k ih=>
  intro t ht h h1
  exact zHx m (f:=jb k) (g:=VQ m k) h h1 (fun j hj a b=>ih _ (ht.2 _ (zJ hj)) a b) (fun j hj a b=>by have:=zJg k _ (ht.2 _ (zJ hj)) a;omega)
def nod:Nat->Tm->Nat
 |0,_=>1
 |k+1,t=>1+(t.args.map (nod k)).sum
theorem zIx {g:Tm->Cel×List Int} {N:Tm->Nat} :∀(l:List Tm),(∀a,a∈l->(g a).2.length<=N a)->(l.map fun a=>(g a).2).flatten.length<=(l.map N).sum:=by
 intro l
 induction l with
 |nil=>intro _;simp
 |cons a l ih=>
  intro h
  have h1:=h a t25
  have h2:=ih fun b hb=>h b (by simp[hb])
  simp only[List.map_cons,List.flatten_cons,List.length_append,List.sum_cons]
  omega
theorem at_le {N:Tm->Nat} :∀(l:List Tm) (i:Nat) (g:Tm->Cel×List Int),(∀a,a∈l->(g a).2.length<=N a)->((l.map fun a=>(g a).2).getD i dF).length<=(l.map N).sum:=by
 intro l
 induction l with
 |nil=>intro i g _;simp[List.getD_eq_getElem?_getD];rfl
 |cons a l ih=>
  intro i g h
  have h1:=h a t25
  cases i with
  |zero=>simp only[List.map_cons,List.sum_cons];show (g a).2.length<=_;omega
  |succ i=>
   have h2:=ih i g fun b hb=>h b (by simp[hb])
   simp only[List.map_cons,List.sum_cons]
   show ((l.map fun a=>(g a).2).getD i dF).length<=_
   omega
theorem uC (m:Mch) {g:Tm->Cel×List Int} {t:Tm} {N:Tm->Nat} (h:∀a,a∈t.args->(g a).2.length<=N a):(jm g m t).2.length<=1+(t.args.map N).sum:=by
 have h1:=zIx t.args h
 unfold jm
 split
 ·simp
 split
 ·split<;>simp
 split
 ·have:=at_le t.args ((2-((t.args.map fun a=>(g a).1).getD 0 dF).n).toNat) g h
  show ((t.args.map fun a=>(g a).2).getD _ dF).length<=_
  omega
 split
 ·simp
 show ((t.args.map fun a=>(g a).2).flatten).length<=_
 omega
theorem zEc (m:Mch):∀(k:Nat) (t:Tm),Yf k t->(VQ m k t).2.length<=nod k t:=by
 intro k
 induction k with
 |zero=>
  intro t ht
  have ha:t.args= []:=ht
  have:=uC m (g:=fun _=>(dF,[])) (t:=t) (N:=fun _=>0) (fun a _=>by simp)
  rw[ha]at this
  have h2:(jm (fun _=>(dF,[])) m t).2.length<=1:=by simpa using this
  exact h2
 |succ k ih=>intro t ht;exact uC m (g:=VQ m k) fun a ha=>ih a (ht.2 a ha)
theorem zRa (f:Tm->Int->Int) (t:Tm) (lv:Int) (N:Tm->Nat) (B:Int) (hB:B<=1000) (hlv:1<=lv/\lv<=8) (hb:∀j,j<t.args.length->1<=f (t.args.getD j dF) (lv+1)/\f (t.args.getD j dF) (lv+1)<=B/\(f (t.args.getD j dF) (lv+1)<=60->(N (t.args.getD j dF):Int)<=f (t.args.getD j dF) (lv+1))) (h60:0<=B):
 ∀(m i:Nat) (a:Int),t.args.length-i=m->i<=t.args.length->1<=a->a<=60->1<=Yl f t lv a i/\Yl f t lv a i<=60+B/\(Yl f t lv a i<=60->a+(((t.args.drop i).map N).sum:Nat)<=Yl f t lv a i):=by
 intro m
 induction m with
 |zero=>
  intro i a h hi h1 h2
  obtain rfl:i=t.args.length:=by omega
  rw[Yl,iQ t11,js]
  refine ⟨h1,by omega,fun _=> ?_⟩
  simp
 |succ m ih=>
  intro i a h hi h1 h2
  have hi2:i<t.args.length:=by omega
  obtain ⟨q1,q2,q3⟩:=hb i hi2
  have e1:IntKind.i64.wrap (lv+1)=lv+1:=zT (by unfold inR;omega)
  have e2:IntKind.i64.wrap (a+f (t.args.getD i dF) (lv+1))=a+f (t.args.getD i dF) (lv+1):=zT (by unfold inR;omega)
  have e3:t.args.drop i=t.args.getD i dF::t.args.drop (i+1):=by rw[List.drop_eq_getElem_cons hi2,List.getD_eq_getElem?_getD,List.getElem?_eq_getElem hi2];rfl
  rw[Yl,iP hi2,e1,e2]
  split
  ·rw[js];exact ⟨by omega,by omega,fun h=>by omega⟩
  obtain ⟨r1,r2,r3⟩:=ih (i+1) _ t11 hi2 (by omega:1<=a+f (t.args.getD i dF) (lv+1)) t11
  refine ⟨r1,r2,fun h=> ?_⟩
  have r4:=r3 h
  have r5:=q3 t11
  rw[e3,List.map_cons,List.sum_cons]
  omega
theorem zXh:∀(k:Nat) (t:Tm) (lv:Int),Yf k t->1<=lv->lv<=9->1<=Qk k t lv/\Qk k t lv<=61+60*(9-lv)/\(Qk k t lv<=60->(nod k t:Int)<=Qk k t lv):=by
 intro k
 induction k with
 |zero=>
  intro t lv ht h1 h2
  have ha:t.args= []:=ht
  rw[show Qk 0 t lv=Jf (fun _ _=>0) t lv from rfl,Jf]
  split
  ·exact ⟨by omega,by omega,fun h=>by omega⟩
  rw[Yl,iQ (by rw[ha];simp),js];exact ⟨by omega,by omega,fun _=>by show ((1:Nat):Int)<=1;omega⟩
 |succ k ih=>
  intro t lv ht h1 h2
  rw[show Qk (k+1) t lv=Jf (Qk k) t lv from rfl,Jf]
  split
  ·exact ⟨by omega,by omega,fun h=>by omega⟩
  obtain ⟨r1,r2,r3⟩:=zRa (Qk k) t lv (nod k) (61+60*(9-(lv+1))) t11 ⟨h1,by omega⟩ (fun j hj=>ih _ _ (ht.2 _ (zJ hj)) t11 t11) t11 _ 0 1 rfl (Nat.zero_le _) t11 t11
  refine ⟨r1,by omega,fun h=> ?_⟩
  have:=r3 h
  rw[List.drop_zero]at this
  show ((1+(t.args.map (nod k)).sum:Nat):Int)<=_
  omega
theorem zKg {o:Int} (h1:3<=o) (h2:o<=13):1<=(zi o).args.length/\(o≠3->2<=(zi o).args.length)/\(o=6->3<=(zi o).args.length)/\(zi o).args.length<=3:=by
 have:o=3∨o=4∨o=5∨o=6∨o=7∨o=8∨o=9∨o=10∨o=11∨o=12∨o=13:=by omega
 rcases this with rfl|rfl|rfl|rfl|rfl|rfl|rfl|rfl|rfl|rfl|rfl<;>decide
theorem zVl {N:Tm->Nat} :∀ {l:List Tm} {a:Tm},a∈l->N a<=(l.map N).sum:=by
 intro l
 induction l with
 |nil=>intro a h;cases h
 |cons b l ih=>
  intro a h
  rw[List.map_cons,List.sum_cons]
  rcases List.mem_cons.1 h with rfl|h
  ·omega
  have:=ih h;omega
theorem zHv (k:Nat) (m:Mch) (t:Tm) (g:Tm->Cel×List Int) (c:Tm->Int×Int) (hf:∀j,k=j+1->∀i,i<t.args.length->GC Tryz.prog 217 [mcG m,Qw j (t.args.getD i dF)] (.tup [ceG (g (t.args.getD i dF)).1,qq (g (t.args.getD i dF)).2])) (ht:Yf k t) (hm:m.cells.length<=9223372036854775807) (hc:(ym c t).2=0) (hB:∀a,a∈t.args->(c a).2=0->(c a).1=1->Bl (g a).1) (hT:∀a,a∈t.args->(c a).2=0->(c a).1=0∨(c a).1=1) (hs:(t.args.map fun a=>(g a).2).flatten.length<=1000):GC Tryz.prog 217 [mcG m,Qw k t] (.tup [ceG (jm g m t).1,qq (jm g m t).2]):=by
 obtain ⟨ha,hk⟩:=UH hc
 refine zWd g m t k hf ht hm ?_ ?_ ?_ hs
 ·intro h2
  rcases hk with ⟨ho,hl⟩|⟨h3,_⟩
  ·rw[hl]at hc
   exact ((zIp hc ho).2.1 h2).1
  omega
 ·intro n0 n1 n2
  rcases hk with ⟨ho,hl⟩|⟨h3,h13,hlen,_⟩
  ·omega
  rw[hlen];exact zKg h3 h13
 intro h6 hkn
 rcases hk with ⟨ho,hl⟩|⟨h3,h13,hlen,acc,hacc,hcc⟩
 ·omega
 have hl3:t.args.length=3:=by rw[hlen,h6];rfl
 rw[hcc]at hc
 have e0:=hacc 0 t11
 have e1:=hacc 1 t11
 rw[List.getD_eq_getElem?_getD]at e0 e1
 have e1':acc[1]?.getD 0=(c (t.args.getD 1 dF)).1:=e1
 have e0':acc[0]?.getD 0=(c (t.args.getD 0 dF)).1:=e0
 have q:=(zGg h6 (by rw[e1'];have:=hT _ (zJ (l:=t.args) (i:=1) t11) (ha 1 t11);omega) hc).1
 exact hB _ (zJ t11) (ha 0 t11) (by rw[<-e0',q]) hkn
theorem zVz (m:Mch) (hm:m.cells.length<=9223372036854775807):∀(k:Nat) (t:Tm),Yf k t->(jb k t).2=0->nod k t<=60->GC Tryz.prog 217 [mcG m,Qw k t] (.tup [ceG (VQ m k t).1,qq (VQ m k t).2]):=by
 intro k
 induction k with
 |zero=>
  intro t ht hc _
  have ha:t.args= []:=ht
  exact zHv 0 m t (fun _=>(dF,[])) (fun _=>(0,0)) (fun j e=>by omega) ht hm hc (fun a h=>by rw[ha]at h;cases h) (fun a h=>by rw[ha]at h;cases h) (by rw[ha];simp)
 |succ k ih=>
  intro t ht hc hn
  have hn':1+(t.args.map (nod k)).sum<=60:=hn
  have hfl:=zIx (g:=VQ m k) (N:=nod k) t.args fun a ha=>zEc m k a (ht.2 a ha)
  refine zHv (k+1) m t (VQ m k) (jb k) (fun j e i hi=> ?_) ht hm hc (fun a ha h1 h2=>zWc m k a (ht.2 a ha) h1 h2) (fun a ha h1=>zJg k a (ht.2 a ha) h1) t11
  cases e
  have h1:=(UH (show (ym (jb k) t).2=0 from hc)).1 i hi
  have h2:=zVl (N:=nod k) (zJ (l:=t.args) (i:=i) hi)
  exact ih _ (ht.2 _ (zJ hi)) h1 t11
theorem ZBr (k:Nat) (m:Mch) (t:Tm) (ht:Yf k t) (hm:m.cells.length<=9223372036854775807) (hc:(jb k t).2=0) (h60:¬60<Qk k t 1):GC Tryz.prog 217 [mcG m,Qw k t] (.tup [ceG (VQ m k t).1,qq (VQ m k t).2]):=by
 have h:=(zXh k t 1 ht t11 t11).2.2 t11
 exact zVz m hm k t ht hc t11
def QV (k:Nat) (t:Tm):Int×Int:=if 60<(Qk k t 1)then (0,6)else ((jb k t).1,(jb k t).2)
theorem Uz (k:Nat) (t:Tm) (ht:Yf k t):GC Tryz.prog 216 [Qw k t] (.tup [iG ((QV k t).1),iG ((QV k t).2)]):=by
 refine zA Tryz.func216 ?_
 refine gE [1,2,3] ?_
 refine gR [.call (zFc k t 1 t12)] [1,2,3,6] ?_
 refine zB ?_ ?_<;>intro c1<;>try simp only[toN]at c1
 ·refine gE [1,2,3] ?_
  refine gT ?_
  rw[QV,iP c1];rfl
 refine gR [.call (zUa k t t12)] [2,3] ?_
 refine gT ?_
 rw[QV,iQ c1];rfl
theorem zCk {k:Nat} {t:Tm} (h:(QV k t).2=0):¬60<Qk k t 1/\QV k t=jb k t:=by
 unfold QV at h⊢
 split at h
 ·cases h
 rename_i hc;rw[iQ hc];exact ⟨hc,rfl⟩
def zPq (k:Nat) (m:Mch) (t:Tm):Cel×List Int:=VQ m k t
theorem zVx (k:Nat) (m:Mch) (t:Tm) (ht:Yf k t) (hm:m.cells.length<=9223372036854775807) (hc:(QV k t).2=0):GC Tryz.prog 217 [mcG m,Qw k t] (.tup [ceG (zPq k m t).1,qq (zPq k m t).2]):=ZBr k m t ht hm (by rw[<-(zCk hc).2];exact hc) (zCk hc).1
def vA (k:Nat) (t:Tm) (cells:List Cel):Cel:=if ((QV k t).2)=0 then (zPq k (⟨cells⟩:Mch) t).1 else ⟨false,0⟩
theorem zZc (k:Nat) (t:Tm) (cells:List Cel) (ht:Yf k t) (hm:cells.length<=9223372036854775807):GC Tryz.prog 179 [Qw k t,.d (.row dF ceC cells)] (ceG (vA k t cells)):=by
 refine zA Tryz.func179 ?_
 refine gE [1,2,4] ?_
 refine gR [.call (Uz k t t12)] [1,2,4,6] ?_
 refine gE [1,2,4,15] ?_
 refine zP ?_ ?_<;>intro c1<;>try simp only[toN]at c1
 ·refine gE [1,2,4] ?_
  refine gT ?_
  rw[vA,iQ c1];rfl
 refine gR [.call (zVx k (⟨cells⟩:Mch) t ht hm t12)] [4,7] ?_
 refine gE [4] ?_
 refine gT ?_
 rw[vA,iP c1];rfl
structure FitO (o:Od):Prop where
 ch:o.bL.length<=1000
 ru:o.rules.length<=1000
 tm:∀x,x∈o.rules->Yf Dep.d x.term
def qB (o:Od) (ask:Int):Tm×Int:=if (!(JT ask).2)=true then (⟨0,0,[]⟩,1)else if (zQ (fun y=>VA y ask) o.rules 0)<0 then (⟨0,0,[]⟩,4)else if (bif (!decide (((QV Dep.d ((o.rules.getD ((zQ (fun y=>VA y ask) o.rules 0).toNat) dF).term)).2)=0))then true else (!decide (((QV Dep.d ((o.rules.getD ((zQ (fun y=>VA y ask) o.rules 0).toNat) dF).term)).1)=((JT ask).1))))=true then (⟨0,0,[]⟩,11)else ((o.rules.getD ((zQ (fun y=>VA y ask) o.rules 0).toNat) dF).term,0)
theorem zQm (o:Od) (ask:Int) (ho:FitO o):GC Tryz.prog 178 [odG o,iG ask] (.tup [Qw Dep.d ((qB o ask).1),iG ((qB o ask).2)]):=by
 have hl:=ho.ru
 refine zA Tryz.func178 ?_
 refine gE [2,3,4,5] ?_
 refine gR [.call (KA ask)] [2,3,4,5,6,7] ?_
 refine gE [2,3,4,5,6,18] ?_
 refine zF ?_ ?_<;>intro c1<;>try simp only[bb,toN]at c1
 ·refine gE [2,3,4,5,6] ?_
  refine Zq env ?_
  rw[qB,iP (by (try simp only[bb,toN]);exact c1)];exact Ent.tup ⟨Ent.agg ⟨Ent.refl _,Ent.refl _,Ent.nil,trivial⟩,Ent.refl _,trivial⟩
 refine zz 1 ?_
 refine gR [.call (Kl o.rules t11 ask)] [2,4,5,6,8] ?_
 refine gE [2,4,5,6,8,25] ?_
 refine zB ?_ ?_<;>intro c2<;>try simp only[toN]at c2
 ·refine gE [2,4,5,6,8] ?_
  refine Zq env ?_
  rw[qB,iN (by (try simp only[bb,toN]);exact c1),iP c2];exact Ent.tup ⟨Ent.agg ⟨Ent.refl _,Ent.refl _,Ent.nil,trivial⟩,Ent.refl _,trivial⟩
 have hi:=uv (fun y=>VA y ask) o.rules 0
 have ht:=ho.tm _ (zJ (l:=o.rules) (i:=(zQ (fun y=>VA y ask) o.rules 0).toNat) t11)
 refine gE [4,5,6,9] ?_
 refine gR [.call (Uz Dep.d ((o.rules.getD ((zQ (fun y=>VA y ask) o.rules 0).toNat) dF).term) t12)] [4,5,6,9,10,11] ?_
 refine gE [4,5,9,44] ?_
 refine zF ?_ ?_<;>intro c3<;>try simp only[bb,toN]at c3
 ·refine gE [4,5,9] ?_
  refine Zq env ?_
  rw[qB,iN (by (try simp only[bb,toN]);exact c1),iQ c2,iP (by (try simp only[bb,toN]);exact c3)];exact Ent.tup ⟨Ent.agg ⟨Ent.refl _,Ent.refl _,Ent.nil,trivial⟩,Ent.refl _,trivial⟩
 refine gE [4,5] ?_
 refine gT ?_
 rw[qB,iN (by (try simp only[bb,toN]);exact c1),iQ c2,iN (by (try simp only[bb,toN]);exact c3)];rfl
theorem zNc {o:Od} (ho:FitO o) {ask:Int} (h:(qB o ask).2=0):Yf Dep.d (qB o ask).1:=by
 unfold qB at h⊢
 split at h
 ·cases h
 rename_i h1
 rw[iQ h1]
 split at h
 ·cases h
 rename_i h2
 rw[iQ h2]
 split at h
 ·cases h
 rename_i h3
 rw[iQ h3]
 have hi:=uv (fun y=>VA y ask) o.rules 0
 exact ho.tm _ (zJ t11)
structure RR (r:Rlm):Prop where
 right:RightR r
 fo:∀o,o∈r.bD->FitO o
theorem XU:∀(n:Nat) (l:List Int),l.Nodup->(∀x,x∈l->0<=x/\x<n)->l.length<=n:=by
 intro n
 induction n with
 |zero=>
  intro l _ h
  cases l with
  |nil=>simp
  |cons a l=>have:=h a t25;omega
 |succ n ih=>
  intro l hn h
  by_cases hm:(n:Int)∈l
  ·have h1:=ih (l.erase n) (hn.erase _) fun x hx=>by
    have hx2:=(List.Nodup.mem_erase_iff hn).1 hx
    have:=h x hx2.2
    have:=hx2.1
    omega
   rw[List.length_erase_of_mem hm]at h1
   omega
  have h1:=ih l hn fun x hx=>by
   have:=h x hx
   have:x≠(n:Int):=fun e=>hm (e▸hx)
   omega
  omega
def VW (r:Rlm) (ask:Int) (places:List Int):Nat->List Int->List Int×Int
 |0,p=>(p,12)
 |n+1,p=>if (Zu r (p.getD (p.length-1) dF) ask places).1=p.getD (p.length-1) dF then (p,0)else
  if (bif !(Zu r (p.getD (p.length-1) dF) ask places).2 then true else bif qv p (Zu r (p.getD (p.length-1) dF) ask places).1 then (r.bD.getD (Zu r (p.getD (p.length-1) dF) ask places).1.toNat dF).acc else false)=true then (p++ [(Zu r (p.getD (p.length-1) dF) ask places).1],0)else
  if qv p (Zu r (p.getD (p.length-1) dF) ask places).1=true then (p++ [(Zu r (p.getD (p.length-1) dF) ask places).1],12)else VW r ask places n (p++ [(Zu r (p.getD (p.length-1) dF) ask places).1])
def jA (r:Rlm) (bK ask:Int) (places:List Int):List Int×Int:=if (bif !Ww r bK ask places then true else !decide (places.getD 0 dF=bK))=true then ([],1)else VW r ask places (r.bD.length+1) [bK]
structure LwI (r:Rlm) (p:List Int):Prop where
 pos:1<=p.length
 nd:p.Nodup
 rng:∀x,x∈p->0<=x/\x<r.bD.length
theorem LwI.len {r:Rlm} {p:List Int} (h:LwI r p):p.length<=r.bD.length:=XU _ _ h.nd h.rng
theorem zYx {r:Rlm} {o ask:Int} {places:List Int} (hf:∀x,x∈places->0<=x/\x<r.bD.length) (ho:0<=o/\o<r.bD.length) (h5:places.length=5) (hq:0<=ask/\ask<22):Ww r o ask places=true:=by
 unfold Ww
 rw[iQ t30]
 rw[Bool.not_eq_true',List.any_eq_false]
 intro x hx
 have:=hf x hx
 unfold Ug
 rw[Bool.not_eq_true]
 simp only[bb]
 omega
theorem zFk {r:Rlm} {o ask:Int} {places:List Int} (hf:∀x,x∈places->0<=x/\x<r.bD.length) (ho:0<=o/\o<r.bD.length) (h5:places.length=5) (hR:RightR r):∀(n k:Nat),(r.bD.getD o.toNat dF).bL.length-k=n->0<=(Yn r o ask places k).1/\(Yn r o ask places k).1<r.bD.length:=by
 intro n
 induction n with
 |zero=>intro k h;rw[Yn,iQ t11];exact ho
 |succ n ih=>
  intro k h
  rw[Yn,iP t11]
  split
  ·have hb:=hR.by_ _ (zJ (l:=r.bD) (i:=o.toNat) t11) _ (zJ (i:=k) t11)
   exact hf _ (zJ t11)
  exact ih _ t11
theorem XY {r:Rlm} {o ask:Int} {places:List Int} (hf:∀x,x∈places->0<=x/\x<r.bD.length) (ho:0<=o/\o<r.bD.length) (h5:places.length=5) (hR:RightR r) (hq:0<=ask/\ask<22):0<=(Zu r o ask places).1/\(Zu r o ask places).1<r.bD.length:=by
 unfold Zu
 rw[iQ (by rw[zYx hf ho h5 hq];simp)]
 exact zFk hf ho h5 hR _ 0 rfl
theorem LwI.next {r:Rlm} {p:List Int} (h:LwI r p) {x:Int} (hx:0<=x/\x<r.bD.length) (hn:qv p x=false):LwI r (p++ [x]):=by
 refine ⟨by simp,?_,fun y hy=> ?_⟩
 ·rw[List.nodup_append]
  refine ⟨h.nd,by simp,fun a ha b hb e=> ?_⟩
  simp only[List.mem_singleton]at hb
  subst hb e
  unfold qv at hn
  rw[List.any_eq_false]at hn
  exact hn a ha t25
 rcases List.mem_append.1 hy with hy|hy
 ·exact h.rng y hy
 simp only[List.mem_singleton]at hy;subst hy;exact hx
theorem zIq {r:Rlm} {x:Int} (h:0<=x/\x<r.bD.length):LwI r [x]:=⟨by simp,by simp,fun y hy=>by simp only[List.mem_singleton]at hy;subst hy;exact h⟩
theorem ZDg (r:Rlm) (hR:RightR r) (bK ask:Int) (places:List Int) (hp:places.length<=9223372036854775807):GC Tryz.prog 177 [rlG r,iG bK,iG ask,qq places] (.tup [qq (jA r bK ask places).1,iG (jA r bK ask places).2]):=by
 have hr:=hR.fit
 have h1:=hr.bD
 refine zA Tryz.func177 ?_
 refine gE [1,2,3,4,8,9] ?_
 refine gR [.call (zIz r bK ask places hr hp)] [1,2,3,4,8,9,27] ?_ (hp:=(by simp only[zC,bb,toN];repeat' first|exact trivial|exact zH.refl _|exact rfl|(rename_i h;have:=Kx h;omega)|omega|apply And.intro|intro _))
 refine zF ?_ ?_<;>intro c1<;>try simp only[bb,toN]at c1
 ·refine gE [1,2,3,4,8,9] ?_
  refine Zq env ?_
  rw[jA,iP (by (try simp only[bb,toN]);exact c1)];exact Ent.tup ⟨Ent.nil,Ent.refl _,trivial⟩
 have hf:=Kx c1.1
 refine gR [.el dF inC [bK]] [2,3,4,8,9,10] ?_
 refine zI (α:=List Int×Nat) (fun x=>LwI r x.1/\VW r ask places (r.bD.length+1) [bK]=VW r ask places (r.bD.length+2-x.1.length) x.1/\x.2<=x.1.length) (fun x=>[(10,.sl 1 1 0 x.1.length)]) (fun x=>[(1,some (.row 3 1 dF inC x.1 x.2))]) (fun x=>r.bD.length+2-x.1.length) ([bK],0) ⟨zIq ⟨hf.1,hf.2.1⟩,by simp,by simp⟩ ?_
 rintro ⟨p,z⟩ ⟨hL,he,hz⟩
 dsimp only at*
 have hp1:=hL.pos
 have hln:=hL.len
 refine gE [2,3,4,8,9,10,11] ?_
 simp only[(show (p.length:Int)-1=((p.length-1:Nat):Int)by have:=hL.pos;omega),toN]
 have hla:=hL.rng _ (zJ (l:=p) (i:=p.length-1) t11)
 have hnx:=XY (ask:=ask) hf.2.2.2.2.2 hla hf.2.2.2.2.1 hR ⟨hf.2.2.1,hf.2.2.2.1⟩
 refine gR [.call (zRq r (p.getD (p.length-1) dF) ask places hR hp)] [2,3,4,8,9,10,11,12,13] ?_
 refine gE [2,3,4,8,9,10,12,13,46] ?_
 refine zB ?_ ?_<;>intro c2<;>try simp only[toN]at c2
 ·refine gE [2,3,4,8,9,10,12,13] ?_
  refine gT ?_
  have eN:r.bD.length+2-p.length=(r.bD.length+1-p.length)+1:=by omega
  rw[jA,iN (by (try simp only[bb,toN]);exact c1),he,eN,VW,iP c2];rfl
 refine gR [.call (zh p (by have:=hL.len;omega) (Zu r (p.getD (p.length-1) dF) ask places).1)] [2,3,4,8,9,10,12,13,14] ?_
 refine gU [.el dF inC [(Zu r (p.getD (p.length-1) dF) ask places).1],.el dF inC (p++ [(Zu r (p.getD (p.length-1) dF) ask places).1])] [2,3,4,8,9,10,12,13,14] ?_
 refine gE [2,3,4,8,9,10,14,55] ?_
 refine zF ?_ ?_<;>intro c3<;>try simp only[bb,toN]at c3
 ·refine gE [2,3,4,8,9,10] ?_
  refine gT ?_
  have eN:r.bD.length+2-p.length=(r.bD.length+1-p.length)+1:=by omega
  rw[jA,iN (by (try simp only[bb,toN]);exact c1),he,eN,VW,iQ c2,iP (by (try simp only[bb,toN]);exact c3)];rfl
 refine gE [2,3,4,8,9,10,70] ?_
 refine zF ?_ ?_<;>intro c4<;>try simp only[bb,toN]at c4
 ·refine gE [2,3,4,8,9,10] ?_
  refine gT ?_
  have eN:r.bD.length+2-p.length=(r.bD.length+1-p.length)+1:=by omega
  rw[jA,iN (by (try simp only[bb,toN]);exact c1),he,eN,VW,iQ c2,iN (by (try simp only[bb,toN]);exact c3),iP c4];rfl
 refine zD ((p++ [(Zu r (p.getD (p.length-1) dF) ask places).1],p.length)) ?_ (hm:=by have:=hL.len;simp only[List.length_append,List.length_cons,List.length_nil];omega)
 have eN:r.bD.length+2-p.length=(r.bD.length+1-p.length)+1:=by omega
 refine ⟨hL.next hnx c4,?_,by simp⟩
 rw[he,eN,VW,iQ c2,iN (by (try simp only[bb,toN]);exact c3),iQ (by rw[c4];simp)]
 rw[List.length_append,List.length_cons,List.length_nil]
 rw[show r.bD.length+2-(p.length+(0+1))=r.bD.length+1-p.length by omega]
end Go.Gh
