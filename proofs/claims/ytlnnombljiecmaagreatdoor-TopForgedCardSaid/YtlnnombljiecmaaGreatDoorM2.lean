/- Walks by the logic of calls, and plain laws (several texts in one). -/
import Derived.Test.YtlnnombljiecmaaGreatDoorM1
import Derived.Test.YtlnnombljiecmaaGreatDoorGh4
import Derived.Shelf.Spec.SlicesGrow
namespace Go.Gh
open Go Go.Proofs
set_option maxRecDepth 1000000
set_option maxHeartbeats 2000000
set_option linter.unusedSimpArgs false
set_option linter.unusedVariables false
set_option linter.unnecessarySimpa false
set_option linter.unusedSectionVars false
variable [Dep]
open Go.RowKit
def va (i:Int) (n:Int):Bool:=(bif decide (0<=i)then decide (i<n)else false)
theorem Jf (i:Int) (n:Int):GC Tryz.prog 29 [iG i,iG n] (bG (va i n)):=by
 refine zA Tryz.func29 ?_
 refine gE [0,1,4] ?_
 refine gE [4] ?_
 refine gT ?_
 rw[va];rfl
def jz (is_:Bool):Cel:=if is_=true then ⟨true,1⟩else ⟨true,0⟩
theorem Kk (is_:Bool):GC Tryz.prog 240 [bG is_] (ceG (jz is_)):=by
 refine zA Tryz.func240 ?_
 refine gE [0,2] ?_
 refine gE [2,3] ?_
 refine zE ?_ ?_<;>intro c1<;>try simp only[bb,toN]at c1
 ·refine gE [2] ?_
  refine gT ?_
  rw[jz,if_pos (by (try simp only[bb,toN]);exact c1)];rfl
 ·refine gE [2] ?_
  refine gT ?_
  rw[jz,iN (by (try simp only[bb,toN]);exact c1)];rfl
def Qj (f:Fil) (kind:Int) (at_:Int) (k1:Nat):Cel:=if k1<f.facts.length then if (bif decide (((f.facts.getD k1 default).kind)=kind)then decide (((f.facts.getD k1 default).at_)=at_)else false)=true then (jz (!decide (((f.facts.getD k1 default).n)=0)))else Qj f kind at_ (k1+1)else ⟨false,0⟩
termination_by f.facts.length-k1
def ZW (f:Fil) (kind:Int) (at_:Int):Cel:=Qj f kind at_ 0
theorem WR (f:Fil) (kind:Int) (at_:Int) (hl:f.facts.length<=9223372036854775807):GC Tryz.prog 241 [fiG f,iG kind,iG at_] (ceG (ZW f kind at_)):=by
 refine zA Tryz.func241 ?_
 refine gE [1,2,3,6] ?_
 refine gE [1,2,6,10,11,12] ?_
 refine zG (α:=Nat) (fun x=>x<=f.facts.length/\Qj f kind at_ 0=Qj f kind at_ x) (fun x=>[(12,iG x)]) (fun x=>[]) (fun x=>f.facts.length-x) 0 ⟨by (try simp only[]);omega,rfl⟩ ?_ (hp:=by simp[zC]<;>rfl)
 rintro k1 ⟨hi1,he⟩
 refine gE [1,2,6,10,11,12,13] ?_
 refine zB ?_ ?_<;>intro c1<;>try simp only[toN]at c1
 ·refine gE [1,2,6,8,10,11,12] ?_
  refine gE [1,2,6,8,10,11,12,25] ?_
  refine zE ?_ ?_<;>intro c2<;>try simp only[bb,toN]at c2
  ·refine gR [.call (Kk (!decide (((f.facts.getD k1 default).n)=0)))] [1,2,6,10,11,12] ?_
   refine gT ?_
   rw[ZW,he,Qj,if_pos (by omega),if_pos (by (try simp only[bb,toN]);exact c2)];rfl
  ·refine gE [1,2,6,10,11,12] ?_
   refine zD (k1+1) ?_ (hp:=by simp[zC]<;>rfl)
   refine ⟨by (try simp only[]);omega,he.trans ?_⟩
   rw[Qj,if_pos (by omega),iN (by (try simp only[bb,toN]);exact c2)]
   try rfl
 ·refine gE [6] ?_
  refine gT ?_
  rw[ZW,he,Qj,if_neg (by omega)];rfl
open Go.IntKind (i64)
theorem inV_t {i n:Int} (h:inV i n=true):0<=i/\i<n:=by simpa [inV]using h
def zh (r:Rlm) (city:Int):Int:=if (!(inV city (r.cities.length:Int)))=true then (-1)else (r.cities.getD city.toNat default).ord
theorem yx (r:Rlm) (city:Int) (hr:FitR r):GC Tryz.prog 208 [rlG r,iG city] (iG (zh r city)):=by
 have h1:=hr.cities;have h2:=hr.usances
 refine zA Tryz.func208 ?_
 refine gE [1,2,4] ?_
 refine gR [.call (qz city (r.cities.length:Int))] [1,2,4,10] ?_
 refine zE ?_ ?_<;>intro c1<;>try simp only[bb,toN]at c1
 ·refine gE [1,2,4] ?_
  refine gT ?_
  rw[zh,if_pos (by (try simp only[bb,toN]);exact c1)];rfl
 ·have hc:=inV_t c1
  refine gE [4] ?_
  refine gT ?_
  rw[zh,iN (by (try simp only[bb,toN]);exact c1)];rfl
def VI (r:Rlm) (fr:Int) (dst:Int) (k1:Nat):Int×Int:=if k1<r.usances.length then if (bif decide (((r.usances.getD k1 default).fr)=fr)then decide (((r.usances.getD k1 default).dst)=dst)else false)=true then ((r.usances.getD k1 default).days,0)else VI r fr dst (k1+1)else (0,4)
termination_by r.usances.length-k1
def zBz (r:Rlm) (fr:Int) (dst:Int):Int×Int:=VI r fr dst 0
theorem UP (r:Rlm) (fr:Int) (dst:Int) (hr:FitR r):GC Tryz.prog 70 [rlG r,iG fr,iG dst] (.tup [iG ((zBz r fr dst).1),iG ((zBz r fr dst).2)]):=by
 have h1:=hr.cities;have h2:=hr.usances
 refine zA Tryz.func70 ?_
 refine gE [1,2,3,6,7] ?_
 refine gE [1,2,6,7,11,12,13] ?_
 refine zG (α:=Nat) (fun x=>x<=r.usances.length/\VI r fr dst 0=VI r fr dst x) (fun x=>[(13,iG x)]) (fun x=>[]) (fun x=>r.usances.length-x) 0 ⟨by (try simp only[]);omega,rfl⟩ ?_ (hp:=by simp[zC]<;>rfl)
 rintro k1 ⟨hi1,he⟩
 refine gE [1,2,6,7,11,12,13,14] ?_
 refine zB ?_ ?_<;>intro c1<;>try simp only[toN]at c1
 ·refine gE [1,2,6,7,9,11,12,13] ?_
  refine gE [1,2,6,7,9,11,12,13,26] ?_
  refine zE ?_ ?_<;>intro c2<;>try simp only[bb,toN]at c2
  ·refine gE [1,2,6,7,11,12,13] ?_
   refine gT ?_
   rw[zBz,he,VI,if_pos (by omega),if_pos (by (try simp only[bb,toN]);exact c2)];rfl
  ·refine gE [1,2,6,7,11,12,13] ?_
   refine zD (k1+1) ?_ (hp:=by simp[zC]<;>rfl)
   refine ⟨by (try simp only[]);omega,he.trans ?_⟩
   rw[VI,if_pos (by omega),iN (by (try simp only[bb,toN]);exact c2)]
   try rfl
 ·refine gE [6,7] ?_
  refine gT ?_
  rw[zBz,he,VI,if_neg (by omega)];rfl
def Qk (f:Fil) (day:Int) (a6_1:Int) (a7_1:Bool) (k1:Nat):Int×Bool:=if k1<f.acts.length then if (bif (bif (bif (!decide (((f.acts.getD k1 default).kind)=1))then (!decide (((f.acts.getD k1 default).kind)=3))else false)then (!decide (((f.acts.getD k1 default).kind)=4))else false)then true else decide (day<((f.acts.getD k1 default).day)))=true then Qk f day a6_1 a7_1 (k1+1)else if (bif (!a7_1)then true else decide (((f.acts.getD k1 default).day)<a6_1))=true then Qk f day ((f.acts.getD k1 default).day) true (k1+1)else Qk f day a6_1 a7_1 (k1+1)else (a6_1,a7_1)
termination_by f.acts.length-k1
def zR (f:Fil) (day:Int):Int×Bool:=Qk f day 0 false 0
theorem zXc (f:Fil) (day:Int) (hl:f.acts.length<=9223372036854775807):GC Tryz.prog 46 [fiG f,iG day] (.tup [iG ((zR f day).1),bG ((zR f day).2)]):=by
 refine zA Tryz.func46 ?_
 refine gE [1,2,4,5] ?_
 refine gE [1,2,4,5,6,7] ?_
 refine gE [1,4,5,6,7,11,12,13] ?_
 refine zG (α:=Int×Bool×Nat) (fun x=>x.2.2<=f.acts.length/\Qk f day 0 false 0=Qk f day x.1 x.2.1 x.2.2) (fun x=>[(6,iG x.1),(7,bG x.2.1),(13,iG x.2.2)]) (fun x=>[]) (fun x=>f.acts.length-x.2.2) (0,false,0) ⟨by (try simp only[]);omega,rfl⟩ ?_ (hp:=by simp[zC]<;>rfl)
 rintro ⟨a6_1,a7_1,k1⟩ ⟨hi1,he⟩
 dsimp only at*
 refine gE [1,4,5,6,7,11,12,13,14] ?_
 refine zB ?_ ?_<;>intro c1<;>try simp only[toN]at c1
 ·refine gE [1,4,5,6,7,9,11,12,13] ?_
  refine gE [1,4,5,6,7,9,11,12,13,35] ?_
  refine zE ?_ ?_<;>intro c2<;>try simp only[bb,toN]at c2
  ·refine gE [1,4,5,6,7,11,12,13] ?_
   refine zD ((a6_1,a7_1,k1+1)) ?_ (hp:=by simp[zC]<;>rfl) (hm:=by dsimp only;omega)
   refine ⟨by (try simp only[]);omega,he.trans ?_⟩
   rw[Qk,if_pos (by omega),if_pos (by (try simp only[bb,toN]);exact c2)]
   try rfl
  ·refine gE [1,4,5,6,7,9,11,12,13,43] ?_
   refine zE ?_ ?_<;>intro c3<;>try simp only[bb,toN]at c3
   ·refine gE [1,4,5,6,7,11,12,13] ?_
    refine gE [1,4,5,6,7,11,12,13] ?_
    refine zD (((f.acts.getD k1 default).day,true,k1+1)) ?_ (hp:=by simp[zC]<;>rfl) (hm:=by dsimp only;omega)
    refine ⟨by (try simp only[]);omega,he.trans ?_⟩
    rw[Qk,if_pos (by omega),iN (by (try simp only[bb,toN]);exact c2),if_pos (by (try simp only[bb,toN]);exact c3)]
    try rfl
   ·refine gE [1,4,5,6,7,11,12,13] ?_
    refine zD ((a6_1,a7_1,k1+1)) ?_ (hp:=by simp[zC]<;>rfl) (hm:=by dsimp only;omega)
    refine ⟨by (try simp only[]);omega,he.trans ?_⟩
    rw[Qk,if_pos (by omega),iN (by (try simp only[bb,toN]);exact c2),iN (by (try simp only[bb,toN]);exact c3)]
    try rfl
 ·refine gE [4,5] ?_
  refine gT ?_
  rw[zR,he,Qk,if_neg (by omega)];rfl
def Wk (before:Int) (flags:Int):Int:=if (bif (!decide ((yO .i64 flags 2)=0))then true else (!decide (before=0)))=true then 1 else if (yO .i64 flags 4)=0 then 0 else 2
theorem zIe (before:Int) (flags:Int):GC Tryz.prog 48 [iG before,iG flags] (iG (Wk before flags)):=by
 refine zA Tryz.func48 ?_
 refine gE [0,1,4] ?_
 refine gE [1,4,5] ?_
 refine zE ?_ ?_<;>intro c1<;>try simp only[bb,toN]at c1
 ·refine gE [4] ?_
  refine gT ?_
  rw[Wk,if_pos (by (try simp only[bb,toN]);exact c1)];rfl
 ·refine gE [4,13] ?_
  refine zT ?_ ?_<;>intro c2<;>try simp only[toN]at c2
  ·refine gE [4] ?_
   refine gT ?_
   rw[Wk,iN (by (try simp only[bb,toN]);exact c1),if_neg c2];rfl
  ·refine gE [4] ?_
   refine gT ?_
   rw[Wk,iN (by (try simp only[bb,toN]);exact c1),if_pos c2];rfl
def wd (n:Int):Bool:=(bif decide (0<=n)then decide (n<=100000)else false)
theorem Vx (n:Int):GC Tryz.prog 169 [iG n] (bG (wd n)):=by
 refine zA Tryz.func169 ?_
 refine gE [0,2] ?_
 refine gE [2] ?_
 refine gT ?_
 rw[wd];rfl
def Jo (r:Rlm) (city:Int):Bool:=(bif decide (0<=city)then decide (city<(r.cities.length:Int))else false)
theorem Up (r:Rlm) (city:Int) (hr:FitR r):GC Tryz.prog 168 [rlG r,iG city] (bG (Jo r city)):=by
 have h1:=hr.cities;have h2:=hr.usances
 refine zA Tryz.func168 ?_
 refine gE [1,2,4] ?_
 refine gE [4] ?_
 refine gT ?_
 rw[Jo];rfl
def XY (t:Tnr):Bool:=(bif decide (t.kind=0)then true else decide (t.kind=1))
theorem zIi (t:Tnr):GC Tryz.prog 170 [tnG t] (bG (XY t)):=by
 refine zA Tryz.func170 ?_
 refine gE [1,2] ?_
 refine gE [2] ?_
 refine gT ?_
 rw[XY];rfl
def qm (day:Int):Bool:=(bif decide (0<=day)then decide (day<=100000)else false)
theorem jG (day:Int):GC Tryz.prog 125 [iG day] (bG (qm day)):=by
 refine zA Tryz.func125 ?_
 refine gE [0,2] ?_
 refine gE [2] ?_
 refine gT ?_
 rw[qm];rfl
def zY (day:Int):Int×Int×Int:=let v6:Int:=(i64.wrap (day+730425)).tmod 146097;let v2:Int:=i64.wrap ((i64.wrap ((i64.wrap ((i64.wrap (v6-(i64.wrap (v6.tdiv 1460))))+(i64.wrap (v6.tdiv 36524))))-(i64.wrap (v6.tdiv 146096)))).tdiv 365);let v1:Int:=i64.wrap (v6-(i64.wrap ((i64.wrap ((i64.wrap (365*v2))+(i64.wrap (v2.tdiv 4))))-(i64.wrap (v2.tdiv 100)))));let v3:Int:=i64.wrap ((i64.wrap ((i64.wrap (5*v1))+2)).tdiv 153);let v4:Int:=(i64.wrap (v1-(i64.wrap ((i64.wrap ((i64.wrap (153*v3))+2)).tdiv 5))))+1;let v5:Int:=v2+(i64.wrap (400*(i64.wrap ((i64.wrap (day+730425)).tdiv 146097))));let v7:Int:=i64.wrap (v3+3);if 12<v7 then if (i64.wrap (v7-12))<3 then (i64.wrap ((i64.wrap v5)+1),i64.wrap (v7-12),i64.wrap v4)else (i64.wrap v5,i64.wrap (v7-12),i64.wrap v4)else if v7<3 then (i64.wrap ((i64.wrap v5)+1),i64.wrap (v3+3),i64.wrap v4)else (i64.wrap v5,i64.wrap (v3+3),i64.wrap v4)
theorem uT (day:Int):GC Tryz.prog 126 [iG day] (.tup [iG ((zY day).1),iG ((zY day).2.1),iG ((zY day).2.2)]):=by
 refine zA Tryz.func126 ?_
 refine gE [0,2,3,4] ?_
 refine zF env true [] [2,3,4,5] ?_
 refine zF env true [] [2,3,4,6,7] ?_
 refine zF env true [] [2,3,4,6,7,8] ?_
 refine zF env true [] [2,3,4,6,7,8] ?_
 refine zF env true [] [2,3,4,6,7,8,9] ?_
 refine zF env true [] [2,3,4,6,8,9] ?_
 refine zF env true [] [2,3,4,6,8] ?_
 refine gE [2,3,4,6,8,51] ?_
 refine zB ?_ ?_<;>intro c1<;>try simp only[toN]at c1
 ·refine zF env true [] [2,3,4,6,8] ?_
  refine zF env true [] [2,3,4] ?_
  refine gE [2,3,4,59] ?_
  refine zB ?_ ?_<;>intro c2<;>try simp only[toN]at c2
  ·refine zF env true [] [2,3,4] ?_
   refine gE [2,3,4] ?_
   refine gT ?_
   rw[show zY day=_ from (if_pos c1).trans (if_pos c2)];rfl
  ·refine gE [2,3,4] ?_
   refine gT ?_
   rw[show zY day=_ from (if_pos c1).trans (if_neg c2)];rfl
 ·refine zF env true [] [2,3,4] ?_
  refine gE [2,3,4,59] ?_
  refine zB ?_ ?_<;>intro c3<;>try simp only[toN]at c3
  ·refine zF env true [] [2,3,4] ?_
   refine gE [2,3,4] ?_
   refine gT ?_
   rw[show zY day=_ from (if_neg c1).trans (if_pos c3)];rfl
  ·refine gE [2,3,4] ?_
   refine gT ?_
   rw[show zY day=_ from (if_neg c1).trans (if_neg c3)];rfl
def QU (year:Int) (month:Int) (dom:Int):Int:=if month<3 then i64.wrap ((i64.wrap ((i64.wrap ((i64.wrap ((i64.wrap ((i64.wrap ((i64.wrap ((i64.wrap (365*(i64.wrap (year-1))))+(i64.wrap ((i64.wrap (year-1)).tdiv 4))))-(i64.wrap ((i64.wrap (year-1)).tdiv 100))))+(i64.wrap ((i64.wrap (year-1)).tdiv 400))))+(i64.wrap ((i64.wrap ((i64.wrap (153*(i64.wrap ((i64.wrap (month+12))-3))))+2)).tdiv 5))))+dom))-1))-730425)else i64.wrap ((i64.wrap ((i64.wrap ((i64.wrap ((i64.wrap ((i64.wrap ((i64.wrap ((i64.wrap (365*year))+(i64.wrap (year.tdiv 4))))-(i64.wrap (year.tdiv 100))))+(i64.wrap (year.tdiv 400))))+(i64.wrap ((i64.wrap ((i64.wrap (153*(i64.wrap (month-3))))+2)).tdiv 5))))+dom))-1))-730425)
theorem wl (year:Int) (month:Int) (dom:Int):GC Tryz.prog 282 [iG year,iG month,iG dom] (iG (QU year month dom)):=by
 refine zA Tryz.func282 ?_
 refine gE [0,1,2,6] ?_
 refine gE [0,1,2,6,8] ?_
 refine zB ?_ ?_<;>intro c1<;>try simp only[toN]at c1
 ·refine zF env true [] [0,1,2,6] ?_
  refine zF env true [] [6] ?_
  refine gT ?_
  rw[QU,if_pos c1];rfl
 ·refine zF env true [] [6] ?_
  refine gT ?_
  rw[QU,if_neg c1];rfl
def jZ (year:Int) (month:Int):Int:=if month=12 then 31 else i64.wrap ((QU year (i64.wrap (month+1)) 1)-(QU year month 1))
theorem uS (year:Int) (month:Int):GC Tryz.prog 265 [iG year,iG month] (iG (jZ year month)):=by
 refine zA Tryz.func265 ?_
 refine gE [0,1,4] ?_
 refine gE [0,1,4,6] ?_
 refine zB ?_ ?_<;>intro c1<;>try simp only[toN]at c1
 ·refine gE [0,1,4] ?_
  refine gT ?_
  rw[jZ,if_pos c1];rfl
 ·refine zF env true [.call (wl year (i64.wrap (month+1)) 1),.call (wl year month 1)] [4] ?_
  refine gT ?_
  rw[jZ,if_neg c1];rfl
def yE (day:Int):Int×Int×Int×Int:=if (!(qm day))=true then (0,0,0,3)else ((zY day).1,(zY day).2.1,(zY day).2.2,0)
theorem zSd (day:Int):GC Tryz.prog 78 [iG day] (.tup [iG ((yE day).1),iG ((yE day).2.1),iG ((yE day).2.2.1),iG ((yE day).2.2.2)]):=by
 refine zA Tryz.func78 ?_
 refine gE [0,2,3,4,5] ?_
 refine gR [.call (jG day)] [0,2,3,4,5,8] ?_
 refine zE ?_ ?_<;>intro c1<;>try simp only[bb,toN]at c1
 ·refine gE [0,2,3,4,5] ?_
  refine gT ?_
  rw[yE,if_pos (by (try simp only[bb,toN]);exact c1)];rfl
 ·refine gR [.call (uT day)] [2,3,4,5] ?_
  refine gE [2,3,4,5] ?_
  refine gT ?_
  rw[yE,iN (by (try simp only[bb,toN]);exact c1)];rfl
def zEn (year:Int) (month:Int) (dom:Int):Int×Int:=if (bif (bif (bif (bif (bif decide (year<2000)then true else decide (2300<year))then true else decide (month<1))then true else decide (12<month))then true else decide (dom<1))then true else decide ((jZ year month)<dom))=true then (0,3)else if (!(qm (QU year month dom)))=true then (0,3)else ((QU year month dom),0)
theorem zXs (year:Int) (month:Int) (dom:Int):GC Tryz.prog 264 [iG year,iG month,iG dom] (.tup [iG ((zEn year month dom).1),iG ((zEn year month dom).2)]):=by
 refine zA Tryz.func264 ?_
 refine gE [0,1,2,6,7] ?_
 refine gR [.call (uS year month)] [0,1,2,6,7,33] ?_
 refine zE ?_ ?_<;>intro c1<;>try simp only[bb,toN]at c1
 ·refine gE [0,1,2,6,7] ?_
  refine gT ?_
  rw[zEn,if_pos (by (try simp only[bb,toN]);exact c1)];rfl
 ·refine gR [.call (wl year month dom)] [6,7,8] ?_
  refine gR [.call (jG (QU year month dom))] [6,7,8,40] ?_
  refine zE ?_ ?_<;>intro c2<;>try simp only[bb,toN]at c2
  ·refine gE [6,7,8] ?_
   refine gT ?_
   rw[zEn,iN (by (try simp only[bb,toN]);exact c1),if_pos (by (try simp only[bb,toN]);exact c2)];rfl
  ·refine gE [6,7] ?_
   refine gT ?_
   rw[zEn,iN (by (try simp only[bb,toN]);exact c1),iN (by (try simp only[bb,toN]);exact c2)];rfl
def XM (day:Int) (n:Int):Int×Int:=if (bif (bif (!(qm day))then true else decide (n<(-5000)))then true else decide (5000<n))=true then (0,3)else ((zEn (i64.wrap ((i64.wrap ((i64.wrap ((i64.wrap ((i64.wrap (12*((zY day).1)))+((zY day).2.1)))-1))+n)).tdiv 12)) (i64.wrap (((i64.wrap ((i64.wrap ((i64.wrap ((i64.wrap (12*((zY day).1)))+((zY day).2.1)))-1))+n)).tmod 12)+1)) (mnI ((zY day).2.2) (jZ (i64.wrap ((i64.wrap ((i64.wrap ((i64.wrap ((i64.wrap (12*((zY day).1)))+((zY day).2.1)))-1))+n)).tdiv 12)) (i64.wrap (((i64.wrap ((i64.wrap ((i64.wrap ((i64.wrap (12*((zY day).1)))+((zY day).2.1)))-1))+n)).tmod 12)+1))))).1,(zEn (i64.wrap ((i64.wrap ((i64.wrap ((i64.wrap ((i64.wrap (12*((zY day).1)))+((zY day).2.1)))-1))+n)).tdiv 12)) (i64.wrap (((i64.wrap ((i64.wrap ((i64.wrap ((i64.wrap (12*((zY day).1)))+((zY day).2.1)))-1))+n)).tmod 12)+1)) (mnI ((zY day).2.2) (jZ (i64.wrap ((i64.wrap ((i64.wrap ((i64.wrap ((i64.wrap (12*((zY day).1)))+((zY day).2.1)))-1))+n)).tdiv 12)) (i64.wrap (((i64.wrap ((i64.wrap ((i64.wrap ((i64.wrap (12*((zY day).1)))+((zY day).2.1)))-1))+n)).tmod 12)+1))))).2)
theorem zYe (day:Int) (n:Int):GC Tryz.prog 236 [iG day,iG n] (.tup [iG ((XM day n).1),iG ((XM day n).2)]):=by
 refine zA Tryz.func236 ?_
 refine gE [0,1,4,5] ?_
 refine gR [.call (jG day)] [0,1,4,5,20] ?_
 refine zE ?_ ?_<;>intro c1<;>try simp only[bb,toN]at c1
 ·refine gE [0,1,4,5] ?_
  refine gT ?_
  rw[XM,if_pos (show (bif (bif (!(qm day))then true else decide (n<(-5000)))then true else decide (5000<n))=true by (try simp only[bb,toN]);exact c1)];rfl
 ·refine gR [.call (uT day)] [1,4,5,6,7,8] ?_
  refine zF env true [] [4,5,6,7,8,9] ?_
  refine zF env true [] [4,5,6,7,8] ?_
  refine gR [.call (uS (i64.wrap ((i64.wrap ((i64.wrap ((i64.wrap ((i64.wrap (12*((zY day).1)))+((zY day).2.1)))-1))+n)).tdiv 12)) (i64.wrap (((i64.wrap ((i64.wrap ((i64.wrap ((i64.wrap (12*((zY day).1)))+((zY day).2.1)))-1))+n)).tmod 12)+1))),.call (zXs (i64.wrap ((i64.wrap ((i64.wrap ((i64.wrap ((i64.wrap (12*((zY day).1)))+((zY day).2.1)))-1))+n)).tdiv 12)) (i64.wrap (((i64.wrap ((i64.wrap ((i64.wrap ((i64.wrap (12*((zY day).1)))+((zY day).2.1)))-1))+n)).tmod 12)+1)) (mnI ((zY day).2.2) (jZ (i64.wrap ((i64.wrap ((i64.wrap ((i64.wrap ((i64.wrap (12*((zY day).1)))+((zY day).2.1)))-1))+n)).tdiv 12)) (i64.wrap (((i64.wrap ((i64.wrap ((i64.wrap ((i64.wrap (12*((zY day).1)))+((zY day).2.1)))-1))+n)).tmod 12)+1)))))] [4,5] ?_
  refine gT ?_
  rw[XM,if_neg (show ¬((bif (bif (!(qm day))then true else decide (n<(-5000)))then true else decide (5000<n))=true)by rw[Bool.not_eq_true];(try simp only[bb,toN]);exact c1)];rfl
def jj (day:Int) (t:Tnr):Int×Int:=if (bif decide (t.n<0)then true else decide (20000<t.n))=true then (0,3)else if t.unit=1 then ((XM day t.n).1,(XM day t.n).2)else (i64.wrap (day+t.n),0)
theorem zBq (day:Int) (t:Tnr):GC Tryz.prog 207 [iG day,tnG t] (.tup [iG ((jj day t).1),iG ((jj day t).2)]):=by
 refine zA Tryz.func207 ?_
 refine gE [0,3,4,5] ?_
 refine gE [0,3,4,5,13] ?_
 refine zE ?_ ?_<;>intro c1<;>try simp only[bb,toN]at c1
 ·refine gE [0,3,4,5] ?_
  refine gT ?_
  rw[jj,if_pos (by (try simp only[bb,toN]);exact c1)];rfl
 ·refine gE [0,3,4,5,16] ?_
  refine zB ?_ ?_<;>intro c2<;>try simp only[toN]at c2
  ·refine gR [.call (zYe day t.n)] [0,3,4,5] ?_
   refine gT ?_
   rw[jj,iN (by (try simp only[bb,toN]);exact c1),if_pos c2];rfl
  ·refine zF env true [] [4,5] ?_
   refine gT ?_
   rw[jj,iN (by (try simp only[bb,toN]);exact c1),if_neg c2];rfl
def Ye (r:Rlm) (b:Bil) (seen:Int):Int×Int:=if b.ten.kind=0 then (seen,0)else if b.ten.kind=1 then ((jj seen b.ten).1,(jj seen b.ten).2)else if b.ten.kind=2 then ((jj b.day b.ten).1,(jj b.day b.ten).2)else if b.ten.kind=4 then (i64.wrap (b.day+((zBz r b.city b.pay).1)),(zBz r b.city b.pay).2)else (b.ten.n,0)
theorem zMt (r:Rlm) (b:Bil) (seen:Int) (hr:FitR r):GC Tryz.prog 171 [rlG r,zBj b,iG seen] (.tup [iG ((Ye r b seen).1),iG ((Ye r b seen).2)]):=by
 have h1:=hr.cities;have h2:=hr.usances
 refine zA Tryz.func171 ?_
 refine gE [2,3,4,6,7] ?_
 refine gE [2,3,4,6,7,12] ?_
 refine gE [2,3,4,6,7,12,13] ?_
 refine zB ?_ ?_<;>intro c1<;>try simp only[toN]at c1
 ·refine gE [4,6,7] ?_
  refine gT ?_
  rw[Ye,if_pos c1];rfl
 ·refine gE [2,3,4,6,7,12,16] ?_
  refine zB ?_ ?_<;>intro c2<;>try simp only[toN]at c2
  ·refine gR [.call (zBq seen b.ten)] [4,6,7] ?_
   refine gT ?_
   rw[Ye,if_neg c1,if_pos c2];rfl
  ·refine gE [3,4,6,7,12,24] ?_
   refine zB ?_ ?_<;>intro c3<;>try simp only[toN]at c3
   ·refine gR [.call (zBq b.day b.ten)] [4,6,7] ?_
    refine gT ?_
    rw[Ye,if_neg c1,if_neg c2,if_pos c3];rfl
   ·refine gE [3,4,6,7,33] ?_
    refine zB ?_ ?_<;>intro c4<;>try simp only[toN]at c4
    ·refine gR [.call (UP r b.city b.pay hr)] [4,6,7,8,9] ?_
     refine zF env true [] [4,6,7] ?_
     refine gT ?_
     rw[Ye,if_neg c1,if_neg c2,if_neg c3,if_pos c4];rfl
    ·refine gE [6,7] ?_
     refine gT ?_
     rw[Ye,if_neg c1,if_neg c2,if_neg c3,if_neg c4];rfl
def vb (v:Int):Int×Bool:=if (bif decide (v<0)then true else decide (19<v))=true then (0,false)else if v<7 then (0,true)else (1,true)
theorem zFt (v:Int):GC Tryz.prog 272 [iG v] (.tup [iG ((vb v).1),bG ((vb v).2)]):=by
 refine zA Tryz.func272 ?_
 refine gE [0,2,3] ?_
 refine gE [0,2,3,4] ?_
 refine zE ?_ ?_<;>intro c1<;>try simp only[bb,toN]at c1
 ·refine gE [2,3] ?_
  refine gT ?_
  rw[vb,if_pos (by (try simp only[bb,toN]);exact c1)];rfl
 ·refine gE [2,3,11] ?_
  refine zB ?_ ?_<;>intro c2<;>try simp only[toN]at c2
  ·refine gE [2,3] ?_
   refine gT ?_
   rw[vb,iN (by (try simp only[bb,toN]);exact c1),if_pos c2];rfl
  ·refine gE [2,3] ?_
   refine gT ?_
   rw[vb,iN (by (try simp only[bb,toN]);exact c1),if_neg c2];rfl
def zLq (n:Int):Int:=mnI (mxI n (-1099511627776)) 1099511627776
theorem KS (n:Int):GC Tryz.prog 274 [iG n] (iG (zLq n)):=by
 refine zA Tryz.func274 ?_
 refine gE [0,2] ?_
 refine gE [2] ?_
 refine gT ?_
 rw[zLq];rfl
def qT (is_:Bool):Cel:=if is_=true then ⟨true,1⟩else ⟨true,0⟩
theorem qI (is_:Bool):GC Tryz.prog 273 [bG is_] (ceG (qT is_)):=by
 refine zA Tryz.func273 ?_
 refine gE [0,2] ?_
 refine gE [2,3] ?_
 refine zE ?_ ?_<;>intro c1<;>try simp only[bb,toN]at c1
 ·refine gE [2] ?_
  refine gT ?_
  rw[qT,if_pos (by (try simp only[bb,toN]);exact c1)];rfl
 ·refine gE [2] ?_
  refine gT ?_
  rw[qT,iN (by (try simp only[bb,toN]);exact c1)];rfl
def Jz (s:Sad):Int:=if s.err=0 then if (!s.cell.known)=true then 2 else if s.cell.n=0 then 0 else 1 else 0
theorem Wh (s:Sad):GC Tryz.prog 154 [sdG s] (iG (Jz s)):=by
 refine zA Tryz.func154 ?_
 refine gE [1,2] ?_
 refine gE [1,2,3] ?_
 refine zT ?_ ?_<;>intro c1<;>try simp only[toN]at c1
 ·refine gE [2] ?_
  refine gT ?_
  rw[Jz,if_neg c1];rfl
 ·refine gE [1,2,7] ?_
  refine zE ?_ ?_<;>intro c2<;>try simp only[bb,toN]at c2
  ·refine gE [2] ?_
   refine gT ?_
   rw[Jz,if_pos c1,if_pos (by (try simp only[bb,toN]);exact c2)];rfl
  ·refine gE [2,12] ?_
   refine zT ?_ ?_<;>intro c3<;>try simp only[toN]at c3
   ·refine gE [2] ?_
    refine gT ?_
    rw[Jz,if_pos c1,iN (by (try simp only[bb,toN]);exact c2),if_neg c3];rfl
   ·refine gE [2] ?_
    refine gT ?_
    rw[Jz,if_pos c1,iN (by (try simp only[bb,toN]);exact c2),if_pos c3];rfl
def HV (s:Sad):Int:=if (bif (!decide (s.err=0))then true else (!s.cell.known))=true then (-1)else s.cell.n
theorem zOn (s:Sad):GC Tryz.prog 134 [sdG s] (iG (HV s)):=by
 refine zA Tryz.func134 ?_
 refine gE [1,2] ?_
 refine gE [1,2,11] ?_
 refine zE ?_ ?_<;>intro c1<;>try simp only[bb,toN]at c1
 ·refine gE [1,2] ?_
  refine gT ?_
  rw[HV,if_pos (by (try simp only[bb,toN]);exact c1)];rfl
 ·refine gE [2] ?_
  refine gT ?_
  rw[HV,iN (by (try simp only[bb,toN]);exact c1)];rfl
def XI (a:Int) (b:Int):Int:=if (bif decide (a=0)then true else decide (b=0))=true then 0 else if (bif decide (a=2)then true else decide (b=2))=true then 2 else 1
theorem zXx (a:Int) (b:Int):GC Tryz.prog 148 [iG a,iG b] (iG (XI a b)):=by
 refine zA Tryz.func148 ?_
 refine gE [0,1,4] ?_
 refine gE [0,1,4,5] ?_
 refine zE ?_ ?_<;>intro c1<;>try simp only[bb,toN]at c1
 ·refine gE [4] ?_
  refine gT ?_
  rw[XI,if_pos (by (try simp only[bb,toN]);exact c1)];rfl
 ·refine gE [4,12] ?_
  refine zE ?_ ?_<;>intro c2<;>try simp only[bb,toN]at c2
  ·refine gE [4] ?_
   refine gT ?_
   rw[XI,iN (by (try simp only[bb,toN]);exact c1),if_pos (by (try simp only[bb,toN]);exact c2)];rfl
  ·refine gE [4] ?_
   refine gT ?_
   rw[XI,iN (by (try simp only[bb,toN]);exact c1),iN (by (try simp only[bb,toN]);exact c2)];rfl
def zAu (a:Int) (b:Int):Int:=if (bif decide (a=1)then true else decide (b=1))=true then 1 else if (bif decide (a=2)then true else decide (b=2))=true then 2 else 0
theorem zXb (a:Int) (b:Int):GC Tryz.prog 187 [iG a,iG b] (iG (zAu a b)):=by
 refine zA Tryz.func187 ?_
 refine gE [0,1,4] ?_
 refine gE [0,1,4,5] ?_
 refine zE ?_ ?_<;>intro c1<;>try simp only[bb,toN]at c1
 ·refine gE [4] ?_
  refine gT ?_
  rw[zAu,if_pos (by (try simp only[bb,toN]);exact c1)];rfl
 ·refine gE [4,12] ?_
  refine zE ?_ ?_<;>intro c2<;>try simp only[bb,toN]at c2
  ·refine gE [4] ?_
   refine gT ?_
   rw[zAu,iN (by (try simp only[bb,toN]);exact c1),if_pos (by (try simp only[bb,toN]);exact c2)];rfl
  ·refine gE [4] ?_
   refine gT ?_
   rw[zAu,iN (by (try simp only[bb,toN]);exact c1),iN (by (try simp only[bb,toN]);exact c2)];rfl
def yn (f:Fil) (i:Int) (a5_1:Int) (k1:Nat):Int:=if k1<f.alters.length then if ((f.alters.getD k1 default).at_)<=i then yn f i ((f.alters.getD k1 default).sum) (k1+1)else yn f i a5_1 (k1+1)else a5_1
termination_by f.alters.length-k1
def JB (f:Fil) (i:Int):Int:=yn f i f.bill.sum 0
theorem zMv (f:Fil) (i:Int) (hl:f.alters.length<=9223372036854775807):GC Tryz.prog 220 [fiG f,iG i] (iG (JB f i)):=by
 refine zA Tryz.func220 ?_
 refine gE [1,2,4] ?_
 refine gE [1,2,4,5] ?_
 refine gE [1,4,5,12,13,14] ?_
 refine zG (α:=Int×Nat) (fun x=>x.2<=f.alters.length/\yn f i f.bill.sum 0=yn f i x.1 x.2) (fun x=>[(5,iG x.1),(14,iG x.2)]) (fun x=>[]) (fun x=>f.alters.length-x.2) (f.bill.sum,0) ⟨by (try simp only[]);omega,rfl⟩ ?_ (hp:=by simp[zC]<;>rfl)
 rintro ⟨a5_1,k1⟩ ⟨hi1,he⟩
 dsimp only at*
 refine gE [1,4,5,12,13,14,15] ?_
 refine zB ?_ ?_<;>intro c1<;>try simp only[toN]at c1
 ·refine gE [1,4,5,7,12,13,14] ?_
  refine gE [1,4,5,7,12,13,14,21] ?_
  refine zB ?_ ?_<;>intro c2<;>try simp only[toN]at c2
  ·refine gE [1,4,5,12,13,14] ?_
   refine gE [1,4,5,12,13,14] ?_
   refine zD (((f.alters.getD k1 default).sum,k1+1)) ?_ (hp:=by simp[zC]<;>rfl) (hm:=by dsimp only;omega)
   refine ⟨by (try simp only[]);omega,he.trans ?_⟩
   rw[yn,if_pos (by omega),if_pos c2]
   try rfl
  ·refine gE [1,4,5,12,13,14] ?_
   refine zD ((a5_1,k1+1)) ?_ (hp:=by simp[zC]<;>rfl) (hm:=by dsimp only;omega)
   refine ⟨by (try simp only[]);omega,he.trans ?_⟩
   rw[yn,if_pos (by omega),if_neg c2]
   try rfl
 ·refine gE [4] ?_
  refine gT ?_
  rw[JB,he,yn,if_neg (by omega)];rfl
def qv (rates:List Rt) (fr:Int) (dst:Int) (day:Int) (a9_1:Int) (k1:Nat):Int:=if k1<rates.length then if (bif (bif (bif decide (((rates.getD k1 default).fr)=fr)then decide (((rates.getD k1 default).dst)=dst)else false)then decide (((rates.getD k1 default).since)<=day)else false)then (bif decide (a9_1<0)then true else decide (((rates.getD a9_1.toNat default).since)<((rates.getD k1 default).since)))else false)=true then qv rates fr dst day k1 (k1+1)else qv rates fr dst day a9_1 (k1+1)else a9_1
termination_by rates.length-k1
def qD (rates:List Rt) (fr:Int) (dst:Int) (day:Int):Int:=qv rates fr dst day (-1) 0
theorem zGk (rates:List Rt) (fr:Int) (dst:Int) (day:Int) (hl:rates.length<=9223372036854775807):GC Tryz.prog 229 [.d (.row default rtC rates),iG fr,iG dst,iG day] (iG (qD rates fr dst day)):=by
 refine zA Tryz.func229 ?_
 refine gE [0,1,2,3,8] ?_
 refine gE [0,1,2,3,8,9] ?_
 refine gE [0,1,2,3,8,9,12,13,14] ?_
 refine zG (α:=Int×Nat) (fun x=>x.2<=rates.length/\qv rates fr dst day (-1) 0=qv rates fr dst day x.1 x.2/\(fun (a:Int) (k:Nat)=>a<k) x.1 x.2) (fun x=>[(9,iG x.1),(14,iG x.2)]) (fun x=>[]) (fun x=>rates.length-x.2) ((-1),0) ⟨by (try simp only[]);omega,rfl,by dsimp only;omega⟩ ?_ (hp:=by simp[zC]<;>rfl)
 rintro ⟨a9_1,k1⟩ ⟨hi1,he,hv1⟩
 dsimp only at*
 refine gE [0,1,2,3,8,9,12,13,14,15] ?_
 refine zB ?_ ?_<;>intro c1<;>try simp only[toN]at c1
 ·refine gE [0,1,2,3,8,9,10,11,12,13,14] ?_
  refine gE [0,1,2,3,8,9,10,12,13,14,48] ?_
  refine zE ?_ ?_<;>intro c2<;>try simp only[bb,toN]at c2
  ·refine gE [0,1,2,3,8,9,12,13,14] ?_
   refine gE [0,1,2,3,8,9,12,13,14] ?_
   refine zD ((k1,k1+1)) ?_ (hp:=by simp[zC]<;>rfl) (hm:=by dsimp only;omega)
   refine ⟨by (try simp only[]);omega,he.trans ?_,by dsimp only;omega⟩
   rw[qv,if_pos (by omega),if_pos (by (try simp only[bb,toN]);exact c2)]
   try rfl
  ·refine gE [0,1,2,3,8,9,12,13,14] ?_
   refine zD ((a9_1,k1+1)) ?_ (hp:=by simp[zC]<;>rfl) (hm:=by dsimp only;omega)
   refine ⟨by (try simp only[]);omega,he.trans ?_,by dsimp only;omega⟩
   rw[qv,if_pos (by omega),iN (by (try simp only[bb,toN]);exact c2)]
   try rfl
 ·refine gE [8] ?_
  refine gT ?_
  rw[qD,he,qv,if_neg (by omega)];rfl
def Ws (a:Act) (str:Bool) (c:Clm):Bool:=(bif decide (c.creditor=a.to_)then true else (bif decide (c.creditor=(-1))then str else false))
theorem zOz (a:Act) (str:Bool) (c:Clm):GC Tryz.prog 105 [acG a,bG str,clG c] (bG (Ws a str c)):=by
 refine zA Tryz.func105 ?_
 refine gE [1,3,5,6] ?_
 refine gE [6] ?_
 refine gT ?_
 rw[Ws];rfl
def zGx (a:Act) (c:Clm):Bool:=if a.at_=c.sign then (bif decide (a.kind=9)then true else (bif decide (a.kind=8)then (bif decide (c.creditor=(-1))then true else decide (a.who=c.creditor))else false))else false
theorem zVx (a:Act) (c:Clm):GC Tryz.prog 95 [acG a,clG c] (bG (zGx a c)):=by
 refine zA Tryz.func95 ?_
 refine gE [2,3,4] ?_
 refine gE [2,3,4,9] ?_
 refine zT ?_ ?_<;>intro c1<;>try simp only[toN]at c1
 ·refine gE [2,3,4] ?_
  refine gT ?_
  rw[zGx,if_neg c1];rfl
 ·refine gE [4] ?_
  refine gT ?_
  rw[zGx,if_pos c1];rfl
def jr (f:Fil) (day:Int) (b2_1:List Sgn) (b2_3:List Act) (k3:Nat) (b2_2:List Alt) (k4:Nat) (b2_4:List Fct):Fil:=if k4<f.facts.length then if (va ((f.facts.getD k4 default).at_) (b2_1.length:Int))=true then jr f day b2_1 b2_3 k3 b2_2 (k4+1) (b2_4++ [(f.facts.getD k4 default)])else jr f day b2_1 b2_3 k3 b2_2 (k4+1) b2_4 else ⟨f.bill,b2_1,b2_2,b2_3,b2_4⟩
termination_by f.facts.length-k4
def Jd (f:Fil) (day:Int) (b2_1:List Sgn) (b2_3:List Act) (k3:Nat) (b2_2:List Alt):Fil:=if k3<f.alters.length then if ((f.alters.getD k3 default).at_)<=(b2_1.length:Int)then Jd f day b2_1 b2_3 (k3+1) (b2_2++ [(f.alters.getD k3 default)])else Jd f day b2_1 b2_3 (k3+1) b2_2 else jr f day b2_1 b2_3 k3 b2_2 0 []
termination_by f.alters.length-k3
def XJ (f:Fil) (day:Int) (b2_1:List Sgn) (b2_3:List Act):Fil:=Jd f day b2_1 b2_3 0 []
def wO (f:Fil) (day:Int) (b2_1:List Sgn) (k2:Nat) (b2_3:List Act):Fil:=if k2<f.acts.length then if day<((f.acts.getD k2 default).day)then XJ f day b2_1 b2_3 else wO f day b2_1 (k2+1) (b2_3++ [(f.acts.getD k2 default)])else XJ f day b2_1 b2_3
termination_by f.acts.length-k2
def ue (f:Fil) (day:Int) (b2_1:List Sgn):Fil:=wO f day b2_1 0 []
def UI (f:Fil) (day:Int) (k1:Nat) (b2_1:List Sgn):Fil:=if k1<f.signs.length then if day<((f.signs.getD k1 default).day)then ue f day b2_1 else UI f day (k1+1) (b2_1++ [(f.signs.getD k1 default)])else ue f day b2_1
termination_by f.signs.length-k1
def atV (f:Fil) (day:Int):Fil:=UI f day 0 []
theorem at_ok (f:Fil) (day:Int) (h1:f.signs.length<=2000000) (h2:f.alters.length<=2000000) (h3:f.acts.length<=2000000) (h4:f.facts.length<=2000000):GC Tryz.prog 13 [fiG f,iG day] (fiG (atV f day)):=by
 refine zA Tryz.func13 ?_
 refine gE [1,2,4] ?_
 refine gE [1,2,4,5] ?_
 refine gE [1,2,4,5,18,19,20] ?_
 refine qb 2 15 45 9 (default:Sgn) sgC ?_
 refine uC (α:=List Sgn) (fun x=>atV f day=ue f day x/\x.length<=f.signs.length) (fun x=>⟨[(1,iG day),(2,.ptr 0 0 0 0),(4,.ptr 1 0 0 0),(5,.ptr 2 0 0 0)],[(0,some (.box [iG f.bill.drawer,iG f.bill.drawee,iG f.bill.payee,iG f.bill.sum,iG f.bill.cur,iG f.bill.ten.kind,iG f.bill.ten.n,iG f.bill.ten.unit,iG f.bill.day,iG f.bill.city,iG f.bill.pay,iG f.bill.need,iG f.bill.rate,iG f.bill.flags,iG f.bill.parts,.d (.row default sgC f.signs),.d (.row default alC f.alters),.d (.row default acC f.acts),.d (.row default fcC f.facts)])),(1,some (.box [iG 0,iG 0,iG 0,iG 0,iG 0,iG 0,iG 0,iG 0,iG 0,iG 0,iG 0,iG 0,iG 0,iG 0,iG 0,.d (.sc (.slice none 0 0)),.d (.sc (.slice none 0 0)),.d (.sc (.slice none 0 0)),.d (.sc (.slice none 0 0))])),(2,some (.box [iG f.bill.drawer,iG f.bill.drawee,iG f.bill.payee,iG f.bill.sum,iG f.bill.cur,iG f.bill.ten.kind,iG f.bill.ten.n,iG f.bill.ten.unit,iG f.bill.day,iG f.bill.city,iG f.bill.pay,iG f.bill.need,iG f.bill.rate,iG f.bill.flags,iG f.bill.parts,.sl 3 9 0 x.length,.d (.sc (.slice none 0 0)),.d (.sc (.slice none 0 0)),.d (.sc (.slice none 0 0))])),(3,some (.row 45 9 default sgC x 0))],4⟩) ?_ ?_
 ·rintro b2_1 ⟨hj1,hm0⟩
  refine gE [1,2,4,5,36,37,38] ?_
  refine qb 2 17 66 9 (default:Act) acC ?_
  refine uC (α:=List Act) (fun x=>atV f day=XJ f day b2_1 x/\x.length<=f.acts.length) (fun x=>⟨[(2,.ptr 0 0 0 0),(4,.ptr 1 0 0 0),(5,.ptr 2 0 0 0)],[(0,some (.box [iG f.bill.drawer,iG f.bill.drawee,iG f.bill.payee,iG f.bill.sum,iG f.bill.cur,iG f.bill.ten.kind,iG f.bill.ten.n,iG f.bill.ten.unit,iG f.bill.day,iG f.bill.city,iG f.bill.pay,iG f.bill.need,iG f.bill.rate,iG f.bill.flags,iG f.bill.parts,.d (.row default sgC f.signs),.d (.row default alC f.alters),.d (.row default acC f.acts),.d (.row default fcC f.facts)])),(1,some (.box [iG 0,iG 0,iG 0,iG 0,iG 0,iG 0,iG 0,iG 0,iG 0,iG 0,iG 0,iG 0,iG 0,iG 0,iG 0,.d (.sc (.slice none 0 0)),.d (.sc (.slice none 0 0)),.d (.sc (.slice none 0 0)),.d (.sc (.slice none 0 0))])),(2,some (.box [iG f.bill.drawer,iG f.bill.drawee,iG f.bill.payee,iG f.bill.sum,iG f.bill.cur,iG f.bill.ten.kind,iG f.bill.ten.n,iG f.bill.ten.unit,iG f.bill.day,iG f.bill.city,iG f.bill.pay,iG f.bill.need,iG f.bill.rate,iG f.bill.flags,iG f.bill.parts,.sl 3 9 0 b2_1.length,.d (.sc (.slice none 0 0)),.sl 4 9 0 x.length,.d (.sc (.slice none 0 0))])),(3,some (.row 45 9 default sgC b2_1 0)),(4,some (.row 66 9 default acC x 0))],5⟩) ?_ ?_
  ·rintro b2_3 ⟨hj2,hm0⟩
   refine gE [2,4,5,54,55,56] ?_
   refine qb 2 16 84 2 (default:Alt) alC ?_
   refine zG (α:=Nat×List Alt) (fun x=>x.1<=f.alters.length/\Jd f day b2_1 b2_3 0 []=Jd f day b2_1 b2_3 x.1 x.2/\x.2.length<=x.1) (fun x=>[(56,iG x.1)]) (fun x=>[(5,some (.row 84 2 default alC x.2 0)),(2,some (.box [iG f.bill.drawer,iG f.bill.drawee,iG f.bill.payee,iG f.bill.sum,iG f.bill.cur,iG f.bill.ten.kind,iG f.bill.ten.n,iG f.bill.ten.unit,iG f.bill.day,iG f.bill.city,iG f.bill.pay,iG f.bill.need,iG f.bill.rate,iG f.bill.flags,iG f.bill.parts,.sl 3 9 0 b2_1.length,.sl 5 2 0 x.2.length,.sl 4 9 0 b2_3.length,.d (.sc (.slice none 0 0))]))]) (fun x=>f.alters.length-x.1) (0,[]) ⟨by (try simp only[]);omega,rfl,by first|omega|(simp;done)|(simp only[List.length_append,List.length_cons,List.length_nil,List.length_set,List.length_replicate];omega)⟩ ?_ (hp:=by simp[zC]<;>rfl)
   rintro ⟨k3,b2_2⟩ ⟨hi3,he3,hl_b2_2⟩
   dsimp only at*
   refine gE [2,4,5,54,55,56,57] ?_
   refine zB ?_ ?_<;>intro c1<;>try simp only[toN]at c1
   ·refine gE [2,4,5,11,54,55,56] ?_
    refine gE [2,4,5,11,54,55,56,65] ?_
    refine zB ?_ ?_<;>intro c2<;>try simp only[toN]at c2
    ·refine gU [.el default alC ([(f.alters.getD k3 default)]:List Alt),.el default alC (b2_2++ [(f.alters.getD k3 default)])] [2,4,5,54,55,56] ?_
     refine gE [2,4,5,54,55,56] ?_
     refine zD ((k3+1,b2_2++ [(f.alters.getD k3 default)])) ?_ (hp:=by simp[zC]<;>rfl) (hm:=by dsimp only;omega)
     refine ⟨by (try simp only[]);omega,he3.trans ?_,by first|omega|(simp;done)|(simp only[List.length_append,List.length_cons,List.length_nil,List.length_set,List.length_replicate];omega)⟩
     rw[Jd,if_pos (by omega),if_pos c2]
     try rfl
    ·refine gE [2,4,5,54,55,56] ?_
     refine zD ((k3+1,b2_2)) ?_ (hp:=by simp[zC]<;>rfl) (hm:=by dsimp only;omega)
     refine ⟨by (try simp only[]);omega,he3.trans ?_,by first|omega|(simp;done)|(simp only[List.length_append,List.length_cons,List.length_nil,List.length_set,List.length_replicate];omega)⟩
     rw[Jd,if_pos (by omega),if_neg c2]
     try rfl
   ·refine gE [4,5,74,75,76] ?_
    refine qb 2 18 47 3 (default:Fct) fcC ?_
    refine zG (α:=Nat×List Fct) (fun x=>x.1<=f.facts.length/\jr f day b2_1 b2_3 k3 b2_2 0 []=jr f day b2_1 b2_3 k3 b2_2 x.1 x.2/\x.2.length<=x.1) (fun x=>[(76,iG x.1)]) (fun x=>[(6,some (.row 47 3 default fcC x.2 0)),(2,some (.box [iG f.bill.drawer,iG f.bill.drawee,iG f.bill.payee,iG f.bill.sum,iG f.bill.cur,iG f.bill.ten.kind,iG f.bill.ten.n,iG f.bill.ten.unit,iG f.bill.day,iG f.bill.city,iG f.bill.pay,iG f.bill.need,iG f.bill.rate,iG f.bill.flags,iG f.bill.parts,.sl 3 9 0 b2_1.length,.sl 5 2 0 b2_2.length,.sl 4 9 0 b2_3.length,.sl 6 3 0 x.2.length]))]) (fun x=>f.facts.length-x.1) (0,[]) ⟨by (try simp only[]);omega,rfl,by first|omega|(simp;done)|(simp only[List.length_append,List.length_cons,List.length_nil,List.length_set,List.length_replicate];omega)⟩ ?_ (hp:=by simp[zC]<;>rfl)
    rintro ⟨k4,b2_4⟩ ⟨hi4,he4,hl_b2_4⟩
    dsimp only at*
    refine gE [4,5,74,75,76,77] ?_
    refine zB ?_ ?_<;>intro c3<;>try simp only[toN]at c3
    ·refine gE [4,5,13,74,75,76] ?_
     refine gR [.call (Jf ((f.facts.getD k4 default).at_) (b2_1.length:Int))] [4,5,13,74,75,76,85] ?_
     refine zE ?_ ?_<;>intro c4<;>try simp only[bb,toN]at c4
     ·refine gU [.el default fcC ([(f.facts.getD k4 default)]:List Fct),.el default fcC (b2_4++ [(f.facts.getD k4 default)])] [4,5,74,75,76] ?_
      refine gE [4,5,74,75,76] ?_
      refine zD ((k4+1,b2_4++ [(f.facts.getD k4 default)])) ?_ (hp:=by simp[zC]<;>rfl) (hm:=by dsimp only;omega)
      refine ⟨by (try simp only[]);omega,he4.trans ?_,by first|omega|(simp;done)|(simp only[List.length_append,List.length_cons,List.length_nil,List.length_set,List.length_replicate];omega)⟩
      rw[jr,if_pos (by omega),if_pos (by (try simp only[bb,toN]);exact c4)]
      try rfl
     ·refine gE [4,5,74,75,76] ?_
      refine zD ((k4+1,b2_4)) ?_ (hp:=by simp[zC]<;>rfl) (hm:=by dsimp only;omega)
      refine ⟨by (try simp only[]);omega,he4.trans ?_,by first|omega|(simp;done)|(simp only[List.length_append,List.length_cons,List.length_nil,List.length_set,List.length_replicate];omega)⟩
      rw[jr,if_pos (by omega),iN (by (try simp only[bb,toN]);exact c4)]
      try rfl
    ·refine gE [4] ?_
     refine gT ?_
     rw[hj2,XJ,he3,Jd,if_neg (by omega),he4,jr,if_neg (by omega)];rfl
  refine zG (α:=Nat×List Act) (fun x=>x.1<=f.acts.length/\wO f day b2_1 0 []=wO f day b2_1 x.1 x.2/\x.2.length<=x.1) (fun x=>[(38,iG x.1)]) (fun x=>[(4,some (.row 66 9 default acC x.2 0)),(2,some (.box [iG f.bill.drawer,iG f.bill.drawee,iG f.bill.payee,iG f.bill.sum,iG f.bill.cur,iG f.bill.ten.kind,iG f.bill.ten.n,iG f.bill.ten.unit,iG f.bill.day,iG f.bill.city,iG f.bill.pay,iG f.bill.need,iG f.bill.rate,iG f.bill.flags,iG f.bill.parts,.sl 3 9 0 b2_1.length,.d (.sc (.slice none 0 0)),.sl 4 9 0 x.2.length,.d (.sc (.slice none 0 0))]))]) (fun x=>f.acts.length-x.1) (0,[]) ⟨by (try simp only[]);omega,rfl,by first|omega|(simp;done)|(simp only[List.length_append,List.length_cons,List.length_nil,List.length_set,List.length_replicate];omega)⟩ ?_ (hp:=by simp[zC]<;>rfl)
  rintro ⟨k2,b2_3⟩ ⟨hi2,he2,hl_b2_3⟩
  dsimp only at*
  refine gE [1,2,4,5,36,37,38,39] ?_
  refine zB ?_ ?_<;>intro c5<;>try simp only[toN]at c5
  ·refine gE [1,2,4,5,9,36,37,38] ?_
   refine gE [1,2,4,5,9,36,37,38,45] ?_
   refine zB ?_ ?_<;>intro c6<;>try simp only[toN]at c6
   ·refine za (b2_3) ?_ (hp:=by simp[zC]<;>rfl)
    exact ⟨by rw[hj1,ue,he2,wO,if_pos (by omega),if_pos c6],by first|omega|(simp;done)|(simp only[List.length_append,List.length_cons,List.length_nil,List.length_set,List.length_replicate];omega)⟩
   ·refine gU [.el default acC ([(f.acts.getD k2 default)]:List Act),.el default acC (b2_3++ [(f.acts.getD k2 default)])] [1,2,4,5,36,37,38] ?_
    refine gE [1,2,4,5,36,37,38] ?_
    refine zD ((k2+1,b2_3++ [(f.acts.getD k2 default)])) ?_ (hp:=by simp[zC]<;>rfl) (hm:=by dsimp only;omega)
    refine ⟨by (try simp only[]);omega,he2.trans ?_,by first|omega|(simp;done)|(simp only[List.length_append,List.length_cons,List.length_nil,List.length_set,List.length_replicate];omega)⟩
    rw[wO,if_pos (by omega),if_neg c6]
    try rfl
  ·refine za (b2_3) ?_ (hp:=by simp[zC]<;>rfl)
   exact ⟨by rw[hj1,ue,he2,wO,if_neg (by omega)],by first|omega|(simp;done)|(simp only[List.length_append,List.length_cons,List.length_nil,List.length_set,List.length_replicate];omega)⟩
 refine zG (α:=Nat×List Sgn) (fun x=>x.1<=f.signs.length/\UI f day 0 []=UI f day x.1 x.2/\x.2.length<=x.1) (fun x=>[(20,iG x.1)]) (fun x=>[(3,some (.row 45 9 default sgC x.2 0)),(2,some (.box [iG f.bill.drawer,iG f.bill.drawee,iG f.bill.payee,iG f.bill.sum,iG f.bill.cur,iG f.bill.ten.kind,iG f.bill.ten.n,iG f.bill.ten.unit,iG f.bill.day,iG f.bill.city,iG f.bill.pay,iG f.bill.need,iG f.bill.rate,iG f.bill.flags,iG f.bill.parts,.sl 3 9 0 x.2.length,.d (.sc (.slice none 0 0)),.d (.sc (.slice none 0 0)),.d (.sc (.slice none 0 0))]))]) (fun x=>f.signs.length-x.1) (0,[]) ⟨by (try simp only[]);omega,rfl,by first|omega|(simp;done)|(simp only[List.length_append,List.length_cons,List.length_nil,List.length_set,List.length_replicate];omega)⟩ ?_ (hp:=by simp[zC]<;>rfl)
 rintro ⟨k1,b2_1⟩ ⟨hi1,he,hl_b2_1⟩
 dsimp only at*
 refine gE [1,2,4,5,18,19,20,21] ?_
 refine zB ?_ ?_<;>intro c7<;>try simp only[toN]at c7
 ·refine gE [1,2,4,5,7,18,19,20] ?_
  refine gE [1,2,4,5,7,18,19,20,27] ?_
  refine zB ?_ ?_<;>intro c8<;>try simp only[toN]at c8
  ·refine za (b2_1) ?_ (hp:=by simp[zC]<;>rfl)
   exact ⟨by rw[atV,he,UI,if_pos (by omega),if_pos c8],by first|omega|(simp;done)|(simp only[List.length_append,List.length_cons,List.length_nil,List.length_set,List.length_replicate];omega)⟩
  ·refine gU [.el default sgC ([(f.signs.getD k1 default)]:List Sgn),.el default sgC (b2_1++ [(f.signs.getD k1 default)])] [1,2,4,5,18,19,20] ?_
   refine gE [1,2,4,5,18,19,20] ?_
   refine zD ((k1+1,b2_1++ [(f.signs.getD k1 default)])) ?_ (hp:=by simp[zC]<;>rfl) (hm:=by dsimp only;omega)
   refine ⟨by (try simp only[]);omega,he.trans ?_,by first|omega|(simp;done)|(simp only[List.length_append,List.length_cons,List.length_nil,List.length_set,List.length_replicate];omega)⟩
   rw[UI,if_pos (by omega),if_neg c8]
   try rfl
 ·refine za (b2_1) ?_ (hp:=by simp[zC]<;>rfl)
  exact ⟨by rw[atV,he,UI,if_neg (by omega)],by first|omega|(simp;done)|(simp only[List.length_append,List.length_cons,List.length_nil,List.length_set,List.length_replicate];omega)⟩
theorem zSs (f:Fil) (day:Int) (S:List Sgn) (A:List Act) (k3:Nat) (L:List Alt):∀(n k:Nat) (acc:List Fct),f.facts.length-k=n->jr f day S A k3 L k acc=⟨f.bill,S,L,A,acc++(f.facts.drop k).filter fun x=>va x.at_ S.length⟩:=by
 intro n
 induction n with
 |zero=>intro k acc h;rw[jr,if_neg (by omega),jq (by omega)];simp
 |succ n ih=>
  intro k acc h
  rw[jr,if_pos (by omega),YL (by omega),List.filter_cons]
  split
  ·rw[ih _ _ (by omega)];simp
  ·rw[ih _ _ (by omega)]
theorem zSt (f:Fil) (day:Int) (S:List Sgn) (A:List Act):∀(n k:Nat) (acc:List Alt),f.alters.length-k=n->∃k3,Jd f day S A k acc=jr f day S A k3 (acc++(f.alters.drop k).filter fun x=>decide (x.at_<=(S.length:Int))) 0 []:=by
 intro n
 induction n with
 |zero=>intro k acc h;rw[Jd,if_neg (by omega),jq (by omega)];simp;exact ⟨_,rfl⟩
 |succ n ih=>
  intro k acc h
  rw[Jd,if_pos (by omega),YL (by omega),List.filter_cons]
  split
  ·rename_i hc
   obtain ⟨k3,h3⟩:=ih (k+1) (acc++ [f.alters.getD k default]) (by omega)
   rw[h3,if_pos (by simpa using hc)];exact ⟨k3,by simp⟩
  ·rename_i hc
   obtain ⟨k3,h3⟩:=ih (k+1) acc (by omega)
   rw[h3,if_neg (by simpa using hc)];exact ⟨k3,rfl⟩
theorem zSu (f:Fil) (day:Int) (S:List Sgn):∀(n k:Nat) (acc:List Act),f.acts.length-k=n->wO f day S k acc=XJ f day S (acc++(f.acts.drop k).takeWhile fun x=> !decide (day<x.day)):=by
 intro n
 induction n with
 |zero=>intro k acc h;rw[wO,if_neg (by omega),jq (by omega)];simp
 |succ n ih=>
  intro k acc h
  rw[wO,if_pos (by omega),YL (by omega),List.takeWhile_cons]
  split
  ·rename_i hc;rw[if_neg (by rw[decide_eq_true hc];simp),List.append_nil]
  ·rename_i hc;rw[ih _ _ (by omega),if_pos (by rw[decide_eq_false hc];rfl),List.append_assoc];rfl
theorem zYc (f:Fil) (day:Int):∀(n k:Nat) (acc:List Sgn),f.signs.length-k=n->UI f day k acc=ue f day (acc++(f.signs.drop k).takeWhile fun x=> !decide (day<x.day)):=by
 intro n
 induction n with
 |zero=>intro k acc h;rw[UI,if_neg (by omega),jq (by omega)];simp
 |succ n ih=>
  intro k acc h
  rw[UI,if_pos (by omega),YL (by omega),List.takeWhile_cons]
  split
  ·rename_i hc;rw[if_neg (by rw[decide_eq_true hc];simp),List.append_nil]
  ·rename_i hc;rw[ih _ _ (by omega),if_pos (by rw[decide_eq_false hc];rfl),List.append_assoc];rfl
def upto (l:List Sgn) (day:Int):List Sgn:=l.takeWhile fun x=> !decide (day<x.day)
theorem yd (f:Fil) (day:Int):atV f day=⟨f.bill,upto f.signs day,f.alters.filter fun x=>decide (x.at_<=((upto f.signs day).length:Int)),f.acts.takeWhile fun x=> !decide (day<x.day),f.facts.filter fun x=>va x.at_ (upto f.signs day).length⟩:=by
 rw[atV,zYc f day _ 0 [] rfl,ue,zSu f day _ _ 0 [] rfl,XJ]
 obtain ⟨k3,h⟩:=zSt f day ([]++(f.signs.drop 0).takeWhile fun x=> !decide (day<x.day)) ([]++(f.acts.drop 0).takeWhile fun x=> !decide (day<x.day)) _ 0 [] rfl
 rw[h,zSs f day _ _ _ _ _ 0 [] rfl]
 rfl
def vL (a:Alt) (c:Cas):Bool:=decide (a.at_<=c.sign)
theorem zMk (a:Alt) (c:Cas):GC Tryz.prog 239 [alG a,.ep (caC c)] (bG (vL a c)):=by
 refine zA Tryz.func239 ?_
 refine gE [1,2,3] ?_
 refine gE [3] ?_
 refine gT ?_
 rw[vL];rfl
theorem Xy (l:List Alt) (hl:l.length<=9223372036854775807) (c:Cas):GC Tryz.prog 268 [.d (.row default alC l),.fn (.func 239) [] [.ep (caC c)]] (iG (zO (fun y=>vL y c) l 0)):=by
 refine zA Tryz.func268 ?_
 refine gE [0,1,4] ?_
 refine gE [0,1,4,7,8] ?_
 refine zG (α:=Nat) (fun i=>i<=l.length/\zO (fun y=>vL y c) l 0=zO (fun y=>vL y c) (l.drop i) i) (fun i=>[(8,iG i)]) (fun _=>[]) (fun i=>l.length-i) 0 ⟨by omega,rfl⟩ ?_ (hp:=by simp[zC]<;>rfl)
 rintro i ⟨hi,he⟩
 refine gE [0,1,4,7,8,9] ?_
 refine zB ?_ ?_<;>intro c1<;>try simp only[toN]at c1
 ·refine gE [0,1,4,5,7,8] ?_
  refine gR [.call (zMk (l.getD i default) c)] [0,1,4,5,7,8,16] ?_
  refine zE ?_ ?_<;>intro c2<;>try simp only[bb,toN]at c2
  ·refine gE [0,1,4,7,8] ?_
   refine gT ?_
   rw[he,YL (by omega),zO,if_pos (by exact c2)];rfl
  ·refine gE [0,1,4,7,8] ?_
   refine zD (i+1) ?_ (hp:=by simp[zC]<;>rfl)
   refine ⟨by omega,he.trans ?_⟩
   rw[YL (by omega),zO,if_neg (by rw[Bool.not_eq_true];exact c2)]
 ·refine gE [4] ?_
  refine gT ?_
  rw[he,jq (by omega)];rfl
theorem KD (l:List Alt) (hl:l.length<=9223372036854775807) (c:Cas):GC Tryz.prog 238 [.d (.row default alC l),.fn (.func 239) [] [.ep (caC c)]] (bG (l.any (fun y=>vL y c))):=by
 refine zA Tryz.func238 ?_
 refine gE [0,1,4] ?_
 refine gR [.call (Xy l hl c)] [4] ?_
 refine gT ?_
 rw[<-qh];rfl
def uy (o:Int) (n:Int):Bool:=(bif decide (o<0)then true else decide (n<=o))
theorem zQy (o:Int) (n:Int):GC Tryz.prog 243 [iG o,.ep [.sc (.int .i64 n)]] (bG (uy o n)):=by
 refine zA Tryz.func243 ?_
 refine gE [0,1,3] ?_
 refine gE [3] ?_
 refine gT ?_
 rw[uy];rfl
theorem KA (l:List Int) (hl:l.length<=9223372036854775807) (n:Int):GC Tryz.prog 269 [.d (.row default inC l),.fn (.func 243) [] [.ep [.sc (.int .i64 n)]]] (iG (zO (fun y=>uy y n) l 0)):=by
 refine zA Tryz.func269 ?_
 refine gE [0,1,4] ?_
 refine gE [0,1,4,7,8] ?_
 refine zG (α:=Nat) (fun i=>i<=l.length/\zO (fun y=>uy y n) l 0=zO (fun y=>uy y n) (l.drop i) i) (fun i=>[(8,iG i)]) (fun _=>[]) (fun i=>l.length-i) 0 ⟨by omega,rfl⟩ ?_ (hp:=by simp[zC]<;>rfl)
 rintro i ⟨hi,he⟩
 refine gE [0,1,4,7,8,9] ?_
 refine zB ?_ ?_<;>intro c1<;>try simp only[toN]at c1
 ·refine gE [0,1,4,5,7,8] ?_
  refine gR [.call (zQy (l.getD i default) n)] [0,1,4,5,7,8,16] ?_
  refine zE ?_ ?_<;>intro c2<;>try simp only[bb,toN]at c2
  ·refine gE [0,1,4,7,8] ?_
   refine gT ?_
   rw[he,YL (by omega),zO,if_pos (by exact c2)];rfl
  ·refine gE [0,1,4,7,8] ?_
   refine zD (i+1) ?_ (hp:=by simp[zC]<;>rfl)
   refine ⟨by omega,he.trans ?_⟩
   rw[YL (by omega),zO,if_neg (by rw[Bool.not_eq_true];exact c2)]
 ·refine gE [4] ?_
  refine gT ?_
  rw[he,jq (by omega)];rfl
theorem KE (l:List Int) (hl:l.length<=9223372036854775807) (n:Int):GC Tryz.prog 242 [.d (.row default inC l),.fn (.func 243) [] [.ep [.sc (.int .i64 n)]]] (bG (l.any (fun y=>uy y n))):=by
 refine zA Tryz.func242 ?_
 refine gE [0,1,4] ?_
 refine gR [.call (KA l hl n)] [4] ?_
 refine gT ?_
 rw[<-qh];rfl
def vK (x:Rul) (ask:Int):Bool:=decide (x.ask=ask)
theorem zRa (x:Rul) (ask:Int):GC Tryz.prog 215 [rulG x,.ep [.sc (.int .i64 ask)]] (bG (vK x ask)):=by
 refine zA Tryz.func215 ?_
 refine gE [1,2,3] ?_
 refine gE [3] ?_
 refine gT ?_
 rw[vK];rfl
theorem KB (l:List Rul) (hl:l.length<=9223372036854775807) (ask:Int):GC Tryz.prog 214 [.d (.row default zCs l),.fn (.func 215) [] [.ep [.sc (.int .i64 ask)]]] (iG (zO (fun y=>vK y ask) l 0)):=by
 refine zA Tryz.func214 ?_
 refine gE [0,1,4] ?_
 refine gE [0,1,4,7,8] ?_
 refine zG (α:=Nat) (fun i=>i<=l.length/\zO (fun y=>vK y ask) l 0=zO (fun y=>vK y ask) (l.drop i) i) (fun i=>[(8,iG i)]) (fun _=>[]) (fun i=>l.length-i) 0 ⟨by omega,rfl⟩ ?_ (hp:=by simp[zC]<;>rfl)
 rintro i ⟨hi,he⟩
 refine gE [0,1,4,7,8,9] ?_
 refine zB ?_ ?_<;>intro c1<;>try simp only[toN]at c1
 ·refine gE [0,1,4,5,7,8] ?_
  refine gR [.call (zRa (l.getD i default) ask)] [0,1,4,5,7,8,16] ?_
  refine zE ?_ ?_<;>intro c2<;>try simp only[bb,toN]at c2
  ·refine gE [0,1,4,7,8] ?_
   refine gT ?_
   rw[he,YL (by omega),zO,if_pos (by exact c2)];rfl
  ·refine gE [0,1,4,7,8] ?_
   refine zD (i+1) ?_ (hp:=by simp[zC]<;>rfl)
   refine ⟨by omega,he.trans ?_⟩
   rw[YL (by omega),zO,if_neg (by rw[Bool.not_eq_true];exact c2)]
 ·refine gE [4] ?_
  refine gT ?_
  rw[he,jq (by omega)];rfl
def WO (r:Rlm) (order:Int) (ask:Int) (places:List Int):Bool:=if (bif (bif (bif (bif decide (order<0)then true else decide ((r.orders.length:Int)<=order))then true else decide (ask<0))then true else decide (22<=ask))then true else (!decide ((places.length:Int)=5)))=true then false else (!(places.any (fun y=>uy y (r.orders.length:Int))))
theorem zHe (r:Rlm) (order:Int) (ask:Int) (places:List Int) (hr:FitR r) (hp:places.length<=9223372036854775807):GC Tryz.prog 212 [rlG r,iG order,iG ask,.d (.row default inC places)] (bG (WO r order ask places)):=by
 have h1:=hr.orders
 refine zA Tryz.func212 ?_
 refine gE [1,2,3,4,8] ?_
 refine gE [1,2,3,8,9] ?_
 refine gE [3,8,9,32] ?_
 refine zE ?_ ?_<;>intro c1<;>try simp only[bb,toN]at c1
 ·refine gE [3,8,9] ?_
  refine gT ?_
  rw[WO,if_pos (by (try simp only[bb,toN]);exact c1)];rfl
 ·refine zv 1 ?_
  refine gR [.call (KE places (by omega) (r.orders.length:Int))] [8] ?_
  refine gT ?_
  rw[WO,iN (by (try simp only[bb,toN]);exact c1)];rfl
structure RightR (r:Rlm):Prop where
 fit:FitR r
 by_:∀o,o∈r.orders->∀c,c∈o.choices->0<=c.by_/\c.by_<5
 len:∀o,o∈r.orders->o.choices.length<=1000/\o.rules.length<=1000
 ordC:∀c,c∈r.cities->0<=c.ord/\c.ord<r.orders.length/\0<=c.cur/\c.cur<r.currencies.length
 firmC:∀c,c∈r.firms->0<=c.city/\c.city<r.cities.length
 rate:∀x,x∈r.rates->1<=x.num/\x.num<=1073741824/\1<=x.den/\x.den<=1073741824
 halt:∀x,x∈r.halts->0<=x.fr/\x.fr<=x.dst/\x.dst<=100000
theorem KO {r:Rlm} {o q:Int} {l:List Int} (h:WO r o q l=true):0<=o/\o<r.orders.length/\0<=q/\q<22/\l.length=5/\∀x,x∈l->0<=x/\x<r.orders.length:=by
 unfold WO at h
 split at h
 ·cases h
 ·rename_i hc
  rw[Bool.not_eq_true]at hc
  simp only[bb]at hc
  refine ⟨by omega,by omega,by omega,by omega,by have:=hc.2;omega,fun x hx=> ?_⟩
  have h2:∀y,y∈l->¬uy y r.orders.length=true:=by simpa using h
  have:=h2 x hx
  unfold uy at this
  rw[Bool.not_eq_true]at this
  simp only[bb]at this
  omega
def YY (r:Rlm) (order:Int) (ask:Int) (places:List Int) (k1:Nat):Int×Bool:=if k1<((r.orders.getD order.toNat default).choices).length then if (bif decide (((((r.orders.getD order.toNat default).choices).getD k1 default).ask)=ask)then (!decide (((((r.orders.getD order.toNat default).choices).getD k1 default).by_)=0))else false)=true then ((places.getD (((((r.orders.getD order.toNat default).choices).getD k1 default).by_).toNat) default),(((r.orders.getD order.toNat default).choices).getD k1 default).whole)else YY r order ask places (k1+1)else (order,false)
termination_by ((r.orders.getD order.toNat default).choices).length-k1
decreasing_by all_goals first|omega|(simp only[bb]at*;omega)
def Zi (r:Rlm) (order:Int) (ask:Int) (places:List Int):Int×Bool:=if (!(WO r order ask places))=true then ((-1),false)else YY r order ask places 0
theorem zPs (r:Rlm) (order:Int) (ask:Int) (places:List Int) (hR:RightR r) (hp:places.length<=9223372036854775807):GC Tryz.prog 213 [rlG r,iG order,iG ask,.d (.row default inC places)] (.tup [iG ((Zi r order ask places).1),bG ((Zi r order ask places).2)]):=by
 have hr:=hR.fit
 have h1:=hr.orders
 refine zA Tryz.func213 ?_
 refine gE [1,2,3,4,8,9] ?_
 refine gR [.call (zHe r order ask places hr (by omega))] [1,2,3,4,8,9,17] ?_
 refine zE ?_ ?_<;>intro c1<;>try simp only[bb,toN]at c1
 ·refine gE [1,2,3,4,8,9] ?_
  refine gT ?_
  rw[Zi,if_pos (by (try simp only[bb,toN]);exact c1)];rfl
 ·have hf:=KO c1
  have hl:=(hR.len _ (zK (l:=r.orders) (i:=order.toNat) (by omega))).1
  refine gE [1,2,3,8,9,23,24,25] ?_
  refine zG (α:=Nat) (fun x=>x<=((r.orders.getD order.toNat default).choices).length/\YY r order ask places 0=YY r order ask places x) (fun x=>[(25,iG x)]) (fun x=>[]) (fun x=>((r.orders.getD order.toNat default).choices).length-x) 0 ⟨by (try simp only[]);omega,rfl⟩ ?_ (hp:=by simp[zC]<;>rfl)
  rintro k1 ⟨hi1,he⟩
  refine gE [1,2,3,8,9,23,24,25,26] ?_
  refine zB ?_ ?_<;>intro c2<;>try simp only[toN]at c2
  ·refine gE [1,2,3,8,9,11,23,24,25] ?_
   have hb:=hR.by_ _ (zK (l:=r.orders) (i:=order.toNat) (by omega)) _ (zK (i:=k1) (by omega))
   refine gE [1,2,3,8,9,11,23,24,25,37] ?_
   refine zE ?_ ?_<;>intro c3<;>try simp only[bb,toN]at c3
   ·refine gE [1,2,3,8,9,23,24,25] ?_
    refine gT ?_
    rw[Zi,iN (by (try simp only[bb,toN]);exact c1),he,YY,if_pos (by omega),if_pos (by (try simp only[bb,toN]);exact c3)];rfl
   ·refine gE [1,2,3,8,9,23,24,25] ?_
    refine zD (k1+1) ?_ (hp:=by simp[zC]<;>rfl)
    refine ⟨by (try simp only[]);omega,he.trans ?_⟩
    rw[YY,if_pos (by omega),iN (by (try simp only[bb,toN]);exact c3)]
    try rfl
  ·refine gE [8,9] ?_
   refine gT ?_
   rw[Zi,iN (by (try simp only[bb,toN]);exact c1),he,YY,if_neg (by omega)];rfl
def jy (ask:Int):Int×Bool:=if (bif decide (ask<0)then true else decide (22<=ask))=true then (0,false)else if (Qz [6,7,10,12,13,14,15,16,20,21] ask)=true then (0,true)else (1,true)
theorem XS (ask:Int):GC Tryz.prog 175 [iG ask] (.tup [iG ((jy ask).1),bG ((jy ask).2)]):=by
 refine zA Tryz.func175 ?_
 refine gE [0,2,3] ?_
 refine gE [0,2,3,4] ?_
 refine zE ?_ ?_<;>intro c1<;>try simp only[bb,toN]at c1
 ·refine gE [2,3] ?_
  refine gT ?_
  rw[jy,if_pos (by (try simp only[bb,toN]);exact c1)];rfl
 ·refine gP [.el default inC [6,7,10,12,13,14,15,16,20,21],.call ((fun l x h=>zl l h x) [6,7,10,12,13,14,15,16,20,21] ask (by first|omega|(simp;done)|decide))] [2,3,11] ?_
  refine zE ?_ ?_<;>intro c2<;>try simp only[bb,toN]at c2
  ·refine gE [2,3] ?_
   refine gT ?_
   rw[jy,iN (by (try simp only[bb,toN]);exact c1),if_pos (by (try simp only[bb,toN]);exact c2)];rfl
  ·refine gE [2,3] ?_
   refine gT ?_
   rw[jy,iN (by (try simp only[bb,toN]);exact c1),iN (by (try simp only[bb,toN]);exact c2)];rfl
structure Shp where
 args:List Int
 result:Int
deriving DecidableEq
instance :Inhabited Shp:=⟨⟨[],0⟩⟩
abbrev shpG (x:Shp):G:= .agg [.d (.row default inC x.args),iG x.result]
theorem YP.len {k:Nat} {t:Tm} (h:YP k t):t.args.length<=4000000000000:=by
 cases k with
 |zero=>have h:t.args= []:=h;rw[h];simp
 |succ k=>exact h.1
theorem YP.at_ {k:Nat} {t:Tm} (h:YP k t) {i:Nat} (hi:i<t.args.length):∃j,k=j+1/\YP j (t.args.getD i default):=by
 cases k with
 |zero=>have h:t.args= []:=h;rw[h]at hi;simp at hi
 |succ k=>exact ⟨k,rfl,h.2 _ (zK hi)⟩
def zf (op:Int):Shp:=if op=3 then ⟨[1],1⟩else if op=4 then ⟨[1,1],1⟩else if op=5 then ⟨[1,1],1⟩else if op=6 then ⟨[1,(-1),(-1)],(-1)⟩else if op=7 then ⟨[0,0],1⟩else if op=8 then ⟨[(-1),(-1)],1⟩else ⟨[0,0],0⟩
theorem zCo (op:Int):GC Tryz.prog 271 [iG op] (shpG (zf op)):=by
 refine zA Tryz.func271 ?_
 refine gE [0,2] ?_
 refine gE [2,3] ?_
 refine gE [2,3,4] ?_
 refine zB ?_ ?_<;>intro c1<;>try simp only[toN]at c1
 ·refine gR [.el default inC [1]] [2] ?_
  refine gT ?_
  rw[zf,if_pos c1];rfl
 ·refine gE [2,3,8] ?_
  refine zB ?_ ?_<;>intro c2<;>try simp only[toN]at c2
  ·refine zB ?_ ?_<;>intro c3<;>try simp only[toN]at c3
   ·refine gR [.el default inC [1,1]] [2] ?_
    refine gT ?_
    rw[zf,if_neg c1,if_pos c2];rfl
   ·exact absurd c2 c3
  ·refine gE [2,3,8] ?_
   refine zB ?_ ?_<;>intro c4<;>try simp only[toN]at c4
   ·refine gR [.el default inC [1,1]] [2] ?_
    refine gT ?_
    rw[zf,if_neg c1,if_neg c2,if_pos c4];rfl
   ·refine gE [2,3,13] ?_
    refine zB ?_ ?_<;>intro c5<;>try simp only[toN]at c5
    ·refine gR [.el default inC [1,(-1),(-1)]] [2] ?_
     refine gT ?_
     rw[zf,if_neg c1,if_neg c2,if_neg c4,if_pos c5];rfl
    ·refine gE [2,3,17] ?_
     refine zB ?_ ?_<;>intro c6<;>try simp only[toN]at c6
     ·refine gR [.el default inC [0,0]] [2] ?_
      refine gT ?_
      rw[zf,if_neg c1,if_neg c2,if_neg c4,if_neg c5,if_pos c6];rfl
     ·refine gE [2,21] ?_
      refine zB ?_ ?_<;>intro c7<;>try simp only[toN]at c7
      ·refine gR [.el default inC [(-1),(-1)]] [2] ?_
       refine gT ?_
       rw[zf,if_neg c1,if_neg c2,if_neg c4,if_neg c5,if_neg c6,if_pos c7];rfl
      ·refine gR [.el default inC [0,0]] [2] ?_
       refine gT ?_
       rw[zf,if_neg c1,if_neg c2,if_neg c4,if_neg c5,if_neg c6,if_neg c7];rfl
def YX (t:Tm):Int×Int:=if 0<(t.args.length:Int)then (0,2)else if t.op=0 then if (zLq t.n)=t.n then (0,0)else (0,3)else if t.op=1 then if (bif decide (t.n<0)then true else decide (1<t.n))=true then (0,3)else (1,0)else if (!(vb t.n).2)=true then (0,10)else ((vb t.n).1,0)
theorem zVt (t:Tm) (k:Nat) (ht:YP k t):GC Tryz.prog 270 [Qe k t] (.tup [iG ((YX t).1),iG ((YX t).2)]):=by
 have hl:=ht.len
 refine zA Tryz.func270 ?_
 refine gE [1,2,3] ?_
 refine gE [1,2,3,9] ?_
 refine zB ?_ ?_<;>intro c1<;>try simp only[toN]at c1
 ·refine gE [1,2,3] ?_
  refine gT ?_
  rw[YX,if_pos c1];rfl
 ·refine gE [1,2,3,11] ?_
  refine gE [1,2,3,11,12] ?_
  refine zB ?_ ?_<;>intro c2<;>try simp only[toN]at c2
  ·refine gR [.call (KS t.n)] [1,2,3,19] ?_
   refine zT ?_ ?_<;>intro c3<;>try simp only[toN]at c3
   ·refine gE [1,2,3] ?_
    refine gT ?_
    rw[YX,if_neg c1,if_pos c2,if_neg c3];rfl
   ·refine gE [1,2,3] ?_
    refine gT ?_
    rw[YX,if_neg c1,if_pos c2,if_pos c3];rfl
  ·refine gE [1,2,3,20] ?_
   refine zB ?_ ?_<;>intro c4<;>try simp only[toN]at c4
   ·refine gE [1,2,3,29] ?_
    refine zE ?_ ?_<;>intro c5<;>try simp only[bb,toN]at c5
    ·refine gE [1,2,3] ?_
     refine gT ?_
     rw[YX,if_neg c1,if_neg c2,if_pos c4,if_pos (by (try simp only[bb,toN]);exact c5)];rfl
    ·refine gE [1,2,3] ?_
     refine gT ?_
     rw[YX,if_neg c1,if_neg c2,if_pos c4,iN (by (try simp only[bb,toN]);exact c5)];rfl
   ·refine gR [.call (zFt t.n)] [2,3,4,5] ?_
    refine gE [2,3,4,37] ?_
    refine zE ?_ ?_<;>intro c6<;>try simp only[bb,toN]at c6
    ·refine gE [2,3,4] ?_
     refine gT ?_
     rw[YX,if_neg c1,if_neg c2,if_neg c4,if_pos (by (try simp only[bb,toN]);exact c6)];rfl
    ·refine gE [2,3] ?_
     refine gT ?_
     rw[YX,if_neg c1,if_neg c2,if_neg c4,iN (by (try simp only[bb,toN]);exact c6)];rfl
def jY (f:Tm->Int->Int) (t:Tm) (lv:Int) (a5_1:Int):Int:=a5_1
def YW (f:Tm->Int->Int) (t:Tm) (lv:Int) (a5_1:Int) (k1:Nat):Int:=if k1<t.args.length then if 60<(i64.wrap (a5_1+(f (t.args.getD k1 default) (i64.wrap (lv+1)))))then jY f t lv (i64.wrap (a5_1+(f (t.args.getD k1 default) (i64.wrap (lv+1)))))else YW f t lv (i64.wrap (a5_1+(f (t.args.getD k1 default) (i64.wrap (lv+1))))) (k1+1)else jY f t lv a5_1
termination_by t.args.length-k1
def JM (f:Tm->Int->Int) (t:Tm) (lv:Int):Int:=if 8<lv then 61 else YW f t lv 1 0
theorem HZ (f:Tm->Int->Int) (t:Tm) (lv:Int) (k:Nat) (hf:∀j,k=j+1->∀a lv,YP j a->GC Tryz.prog 244 [Qe j a,iG lv] (iG (f a lv))) (ht:YP k t):GC Tryz.prog 244 [Qe k t,iG lv] (iG (JM f t lv)):=by
 have hl:=ht.len
 refine zA Tryz.func244 ?_
 refine gE [1,2,4] ?_
 refine gE [1,2,4,9] ?_
 refine zB ?_ ?_<;>intro c1<;>try simp only[toN]at c1
 ·refine gE [1,2,4] ?_
  refine gT ?_
  rw[JM,if_pos c1];rfl
 ·refine gE [1,2,4,5] ?_
  refine gE [1,4,5,11,12,13] ?_
  refine uC (α:=Int) (fun x=>JM f t lv=jY f t lv x) (fun x=>⟨[(4,iG 0),(5,iG x)],[(0,some (.box [iG t.op,iG t.n,.d (.row default (tmC k) t.args)]))],1⟩) ?_ ?_
  ·rintro a5_1 hj1
   refine gE [4] ?_
   refine gT ?_
   rw[hj1,jY];rfl
  refine zG (α:=Int×Nat) (fun x=>x.2<=t.args.length/\YW f t lv 1 0=YW f t lv x.1 x.2) (fun x=>[(5,iG x.1),(13,iG x.2)]) (fun x=>[]) (fun x=>t.args.length-x.2) (1,0) ⟨by (try simp only[]);omega,rfl⟩ ?_ (hp:=by simp[zC]<;>rfl)
  rintro ⟨a5_1,k1⟩ ⟨hi1,he⟩
  dsimp only at*
  refine gE [1,4,5,11,12,13,14] ?_
  refine zB ?_ ?_<;>intro c2<;>try simp only[toN]at c2
  ·obtain ⟨j,rfl,hfa⟩:=ht.at_ (i:=k1) (by omega)
   refine gE [1,4,5,7,11,12,13] ?_
   refine zF env true [.call (hf _ rfl (t.args.getD k1 default) (i64.wrap (lv+1)) hfa)] [1,4,5,11,12,13] ?_
   refine gE [1,4,5,11,12,13,24] ?_
   refine zB ?_ ?_<;>intro c3<;>try simp only[toN]at c3
   ·refine za (i64.wrap (a5_1+(f (t.args.getD k1 default) (i64.wrap (lv+1))))) ?_ (hp:=by simp[zC]<;>rfl)
    exact by rw[JM,if_neg c1,he,YW,if_pos (by omega),if_pos c3]
   ·refine gE [1,4,5,11,12,13] ?_
    refine zD ((i64.wrap (a5_1+(f (t.args.getD k1 default) (i64.wrap (lv+1)))),k1+1)) ?_ (hp:=by simp[zC]<;>rfl) (hm:=by dsimp only;omega)
    refine ⟨by (try simp only[]);omega,he.trans ?_⟩
    rw[YW,if_pos (by omega),if_neg c3]
    try rfl
  ·refine za (a5_1) ?_ (hp:=by simp[zC]<;>rfl)
   exact by rw[JM,if_neg c1,he,YW,if_neg (by omega)]
def QV:Nat->Tm->Int->Int
 |0=>JM fun _ _=>0
 |k+1=>JM (QV k)
theorem zDn:∀(k:Nat) (t:Tm) (lv:Int),YP k t->GC Tryz.prog 244 [Qe k t,iG lv] (iG (QV k t lv)):=by
 intro k
 induction k with
 |zero=>intro t lv h;exact HZ _ t lv 0 (fun j e=>by omega) h
 |succ k ih=>intro t lv h;exact HZ (QV k) t lv (k+1) (fun j e=>by cases e;exact ih) h
def ZC (f:Tm->Int×Int) (t:Tm) (a4_1:List Int) (k1:Nat) (a10_2:Int) (k2:Nat):Int×Int:=if k2<((zf t.op).args).length then if (bif decide ((((zf t.op).args).getD k2 default)=(-1))then decide (a10_2=(-1))else false)=true then if (((zf t.op).args).getD k2 default)=(-1)then if (a4_1.getD k2 default)=(a4_1.getD k2 default)then ZC f t a4_1 k1 (a4_1.getD k2 default) (k2+1)else (0,11)else if (a4_1.getD k2 default)=(((zf t.op).args).getD k2 default)then ZC f t a4_1 k1 (a4_1.getD k2 default) (k2+1)else (0,11)else if (((zf t.op).args).getD k2 default)=(-1)then if (a4_1.getD k2 default)=a10_2 then ZC f t a4_1 k1 a10_2 (k2+1)else (0,11)else if (a4_1.getD k2 default)=(((zf t.op).args).getD k2 default)then ZC f t a4_1 k1 a10_2 (k2+1)else (0,11)else if ((zf t.op).result)=(-1)then (a10_2,0)else ((zf t.op).result,0)
termination_by ((zf t.op).args).length-k2
def yj (f:Tm->Int×Int) (t:Tm) (a4_1:List Int) (k1:Nat):Int×Int:=if k1<t.args.length then if ((f (t.args.getD k1 default)).2)=0 then yj f t (a4_1.set k1 ((f (t.args.getD k1 default)).1)) (k1+1)else (0,(f (t.args.getD k1 default)).2)else if (bif decide (t.op<0)then true else decide (13<t.op))=true then (0,1)else if (bif (bif decide (t.op=0)then true else decide (t.op=1))then true else decide (t.op=2))=true then ((YX t).1,(YX t).2)else if (bif (!decide ((a4_1.length:Int)=(((zf t.op).args).length:Int)))then true else (!decide (t.n=0)))=true then (0,2)else ZC f t a4_1 k1 (-1) 0
termination_by t.args.length-k1
def yW (f:Tm->Int×Int) (t:Tm):Int×Int:=yj f t (List.replicate t.args.length 0) 0
theorem zHl (f:Tm->Int×Int) (t:Tm) (k:Nat) (hf:∀j,k=j+1->∀a,YP j a->GC Tryz.prog 245 [Qe j a] (.tup [iG (f a).1,iG (f a).2])) (ht:YP k t):GC Tryz.prog 245 [Qe k t] (.tup [iG ((yW f t).1),iG ((yW f t).2)]):=by
 have hl:=ht.len
 refine zA Tryz.func245 ?_
 refine gE [1,2,3] ?_
 refine gR [.el default inC (List.replicate t.args.length 0)] [1,2,3,4] ?_ (hp:=(by simp only[zC,bb,toN,loI,hiI];repeat' first|exact trivial|exact zI.refl _|exact zH.refl _|exact rfl|(rw[zP,List.map_replicate])|omega|apply And.intro|intro _))
 refine gE [1,2,3,4,18,19,20] ?_
 refine zG (α:=List Int×Nat) (fun x=>x.2<=t.args.length/\yj f t (List.replicate t.args.length 0) 0=yj f t x.1 x.2/\x.1.length=t.args.length) (fun x=>[(4,.sl 1 1 0 x.1.length),(20,iG x.2)]) (fun x=>[(1,some (.row 3 1 default inC x.1 0))]) (fun x=>t.args.length-x.2) (List.replicate t.args.length 0,0) ⟨by (try simp only[]);omega,rfl,by first|omega|(simp;done)|(simp only[List.length_append,List.length_cons,List.length_nil,List.length_set,List.length_replicate];omega)⟩ ?_ (hp:=by simp[zC]<;>rfl)
 rintro ⟨a4_1,k1⟩ ⟨hi1,he,hl_a4_1⟩
 dsimp only at*
 refine gE [1,2,3,4,18,19,20,21] ?_
 refine zB ?_ ?_<;>intro c1<;>try simp only[toN]at c1
 ·obtain ⟨j,rfl,hfa⟩:=ht.at_ (i:=k1) (by omega)
  refine gE [1,2,3,4,5,6,18,19,20] ?_
  refine gR [.call (hf _ rfl (t.args.getD k1 default) hfa)] [1,2,3,4,5,7,8,18,19,20] ?_
  refine gE [1,2,3,4,5,7,8,18,19,20,31] ?_
  refine zT ?_ ?_<;>intro c2<;>try simp only[toN]at c2
  ·refine gE [1,2,3,4,5,7,18,19,20] ?_
   refine gT ?_
   rw[yW,he,yj,if_pos (by omega),if_neg c2];rfl
  ·refine gR [.el default inC (a4_1.set k1 ((f (t.args.getD k1 default)).1))] [1,2,3,4,18,19,20] ?_ (hp:=(by simp only[zC,bb,toN,loI,hiI,Nat.zero_add];repeat' first|exact (ZN (cs:=inC) (by first|omega|(simp;done)) rfl (by rfl)).symm|exact Nat.le_refl _|exact trivial|exact zI.refl _|exact zH.refl _|exact rfl|omega|apply And.intro|intro _|(simp;done)))
   refine gE [1,2,3,4,18,19,20] ?_
   refine zD ((a4_1.set k1 ((f (t.args.getD k1 default)).1),k1+1)) ?_ (hp:=by simp[zC]<;>rfl) (hm:=by dsimp only;omega)
   refine ⟨by (try simp only[]);omega,he.trans ?_,by first|omega|(simp;done)|(simp only[List.length_append,List.length_cons,List.length_nil,List.length_set,List.length_replicate];omega)⟩
   rw[yj,if_pos (by omega),if_pos c2]
   try rfl
 ·refine gE [1,2,3,4,38] ?_
  refine zE ?_ ?_<;>intro c3<;>try simp only[bb,toN]at c3
  ·refine gE [1,2,3,4] ?_
   refine gT ?_
   rw[yW,he,yj,if_neg (by omega),if_pos (by (try simp only[bb,toN]);exact c3)];rfl
  ·refine gE [1,2,3,4,47] ?_
   refine zE ?_ ?_<;>intro c4<;>try simp only[bb,toN]at c4
   ·refine gR [.call (zVt t k (by assumption))] [1,2,3,4] ?_
    refine gT ?_
    rw[yW,he,yj,if_neg (by omega),iN (by (try simp only[bb,toN]);exact c3),if_pos (by (try simp only[bb,toN]);exact c4)];rfl
   ·refine gR [.call (zCo t.op)] [1,2,3,4,9] ?_
    refine gE [2,3,4,9,78] ?_
    refine zE ?_ ?_<;>intro c5<;>try simp only[bb,toN]at c5
    ·refine gE [2,3,4,9] ?_
     refine gT ?_
     rw[yW,he,yj,if_neg (by omega),iN (by (try simp only[bb,toN]);exact c3),iN (by (try simp only[bb,toN]);exact c4),if_pos (by (try simp only[bb,toN]);exact c5)];rfl
    ·refine gE [2,3,4,9,10] ?_
     refine gE [2,3,4,9,10,80,81,82] ?_
     refine zG (α:=Int×Nat) (fun x=>x.2<=((zf t.op).args).length/\ZC f t a4_1 k1 (-1) 0=ZC f t a4_1 k1 x.1 x.2) (fun x=>[(10,iG x.1),(82,iG x.2)]) (fun x=>[]) (fun x=>((zf t.op).args).length-x.2) ((-1),0) ⟨by (try simp only[]);omega,rfl⟩ ?_ (hp:=by simp[zC]<;>rfl)
     rintro ⟨a10_2,k2⟩ ⟨hi2,he2⟩
     dsimp only at*
     refine gE [2,3,4,9,10,80,81,82,83] ?_
     refine zB ?_ ?_<;>intro c6<;>try simp only[toN]at c6
     ·refine gE [2,3,4,9,10,11,12,80,81,82] ?_
      refine gE [2,3,4,9,10,11,12,80,81,82,92] ?_
      refine zE ?_ ?_<;>intro c7<;>try simp only[bb,toN]at c7
      ·refine gE [2,3,4,9,10,11,12,80,81,82] ?_ (hp:=(by simp only[zC,bb,toN,loI,hiI];repeat' first|exact trivial|exact zI.refl _|exact zH.refl _|exact rfl|omega|apply And.intro|intro _|(simp;done)))
       refine gE [2,3,4,9,10,11,12,80,81,82,98] ?_
       refine zB ?_ ?_<;>intro c8<;>try simp only[toN]at c8
       ·refine gE [2,3,4,9,10,11,12,80,81,82] ?_
        refine gE [2,3,4,9,10,80,81,82,105] ?_ (hp:=(by simp only[zC,bb,toN,loI,hiI];repeat' first|exact trivial|exact zI.refl _|exact zH.refl _|exact rfl|omega|apply And.intro|intro _|(simp;done)))
        refine zT ?_ ?_<;>intro c9<;>try simp only[toN]at c9
        ·refine gE [2,3,4,9,10,80,81,82] ?_
         refine gT ?_
         rw[yW,he,yj,if_neg (by omega),iN (by (try simp only[bb,toN]);exact c3),iN (by (try simp only[bb,toN]);exact c4),iN (by (try simp only[bb,toN]);exact c5),he2,ZC,if_pos (by omega),if_pos (by (try simp only[bb,toN]);exact c7),if_pos c8,if_neg (show ¬((a4_1.getD k2 default)=(a4_1.getD k2 default))from absurd trivial c9)];rfl
        ·refine gE [2,3,4,9,10,80,81,82] ?_
         refine zD (((a4_1.getD k2 default),k2+1)) ?_ (hp:=by simp[zC]<;>rfl) (hm:=by dsimp only;omega)
         refine ⟨by (try simp only[]);omega,he2.trans ?_⟩
         rw[ZC,if_pos (by omega),if_pos (by (try simp only[bb,toN]);exact c7),if_pos c8,if_pos (show (a4_1.getD k2 default)=(a4_1.getD k2 default)from rfl)]
         try rfl
       ·refine gE [2,3,4,9,10,80,81,82,105] ?_ (hp:=(by simp only[zC,bb,toN,loI,hiI];repeat' first|exact trivial|exact zI.refl _|exact zH.refl _|exact rfl|omega|apply And.intro|intro _|(simp;done)))
        refine zT ?_ ?_<;>intro c10<;>try simp only[toN]at c10
        ·refine gE [2,3,4,9,10,80,81,82] ?_
         refine gT ?_
         rw[yW,he,yj,if_neg (by omega),iN (by (try simp only[bb,toN]);exact c3),iN (by (try simp only[bb,toN]);exact c4),iN (by (try simp only[bb,toN]);exact c5),he2,ZC,if_pos (by omega),if_pos (by (try simp only[bb,toN]);exact c7),if_neg c8,if_neg c10];rfl
        ·refine gE [2,3,4,9,10,80,81,82] ?_
         refine zD (((a4_1.getD k2 default),k2+1)) ?_ (hp:=by simp[zC]<;>rfl) (hm:=by dsimp only;omega)
         refine ⟨by (try simp only[]);omega,he2.trans ?_⟩
         rw[ZC,if_pos (by omega),if_pos (by (try simp only[bb,toN]);exact c7),if_neg c8,if_pos c10]
         try rfl
      ·refine gE [2,3,4,9,10,11,12,80,81,82,98] ?_
       refine zB ?_ ?_<;>intro c11<;>try simp only[toN]at c11
       ·refine gE [2,3,4,9,10,11,12,80,81,82] ?_
        refine gE [2,3,4,9,10,80,81,82,105] ?_ (hp:=(by simp only[zC,bb,toN,loI,hiI];repeat' first|exact trivial|exact zI.refl _|exact zH.refl _|exact rfl|omega|apply And.intro|intro _|(simp;done)))
        refine zT ?_ ?_<;>intro c12<;>try simp only[toN]at c12
        ·refine gE [2,3,4,9,10,80,81,82] ?_
         refine gT ?_
         rw[yW,he,yj,if_neg (by omega),iN (by (try simp only[bb,toN]);exact c3),iN (by (try simp only[bb,toN]);exact c4),iN (by (try simp only[bb,toN]);exact c5),he2,ZC,if_pos (by omega),iN (by (try simp only[bb,toN]);exact c7),if_pos c11,if_neg c12];rfl
        ·refine gE [2,3,4,9,10,80,81,82] ?_
         refine zD ((a10_2,k2+1)) ?_ (hp:=by simp[zC]<;>rfl) (hm:=by dsimp only;omega)
         refine ⟨by (try simp only[]);omega,he2.trans ?_⟩
         rw[ZC,if_pos (by omega),iN (by (try simp only[bb,toN]);exact c7),if_pos c11,if_pos c12]
         try rfl
       ·refine gE [2,3,4,9,10,80,81,82,105] ?_ (hp:=(by simp only[zC,bb,toN,loI,hiI];repeat' first|exact trivial|exact zI.refl _|exact zH.refl _|exact rfl|omega|apply And.intro|intro _|(simp;done)))
        refine zT ?_ ?_<;>intro c13<;>try simp only[toN]at c13
        ·refine gE [2,3,4,9,10,80,81,82] ?_
         refine gT ?_
         rw[yW,he,yj,if_neg (by omega),iN (by (try simp only[bb,toN]);exact c3),iN (by (try simp only[bb,toN]);exact c4),iN (by (try simp only[bb,toN]);exact c5),he2,ZC,if_pos (by omega),iN (by (try simp only[bb,toN]);exact c7),if_neg c11,if_neg c13];rfl
        ·refine gE [2,3,4,9,10,80,81,82] ?_
         refine zD ((a10_2,k2+1)) ?_ (hp:=by simp[zC]<;>rfl) (hm:=by dsimp only;omega)
         refine ⟨by (try simp only[]);omega,he2.trans ?_⟩
         rw[ZC,if_pos (by omega),iN (by (try simp only[bb,toN]);exact c7),if_neg c11,if_pos c13]
         try rfl
     ·refine gE [2,3,9,10,109] ?_
      refine zB ?_ ?_<;>intro c14<;>try simp only[toN]at c14
      ·refine gE [2,3,9] ?_
       refine gT ?_
       rw[yW,he,yj,if_neg (by omega),iN (by (try simp only[bb,toN]);exact c3),iN (by (try simp only[bb,toN]);exact c4),iN (by (try simp only[bb,toN]);exact c5),he2,ZC,if_neg (by omega),if_pos c14];rfl
      ·refine gE [2,3] ?_
       refine gT ?_
       rw[yW,he,yj,if_neg (by omega),iN (by (try simp only[bb,toN]);exact c3),iN (by (try simp only[bb,toN]);exact c4),iN (by (try simp only[bb,toN]);exact c5),he2,ZC,if_neg (by omega),if_neg c14];rfl
structure Mch where
 cells:List Cel
deriving DecidableEq
instance :Inhabited Mch:=⟨⟨[]⟩⟩
abbrev mcG (x:Mch):G:= .agg [.d (.row default ceC x.cells)]
def Js (a b:Cel):Bool:=(a.known==b.known)&&(decide (a.n=b.n)&&(true))
theorem WT (a b:Cel):EqC Tryz.prog 74 [.bool a.known,.int .i64 a.n] [.bool b.known,.int .i64 b.n] (Js a b):=EqC.of Zk rfl rfl (by kernel_rfl) (by kernel_rfl) (.bool Zk rfl rfl rfl rfl (.int Zk rfl rfl rfl rfl .nil))
def yy (x:Int) (y:Int):Int×Int:=(IntKind.u64.wrap ((IntKind.u64.wrap ((IntKind.u64.wrap ((wU .u64 x 32)*(wU .u64 y 32)))+(wU .u64 (IntKind.u64.wrap ((IntKind.u64.wrap ((wU .u64 x 32)*(yO .u64 y 4294967295)))+(wU .u64 (IntKind.u64.wrap ((yO .u64 x 4294967295)*(yO .u64 y 4294967295))) 32))) 32)))+(wU .u64 (IntKind.u64.wrap ((yO .u64 (IntKind.u64.wrap ((IntKind.u64.wrap ((wU .u64 x 32)*(yO .u64 y 4294967295)))+(wU .u64 (IntKind.u64.wrap ((yO .u64 x 4294967295)*(yO .u64 y 4294967295))) 32))) 4294967295)+(IntKind.u64.wrap ((yO .u64 x 4294967295)*(wU .u64 y 32))))) 32)),IntKind.u64.wrap (x*y))
theorem zOu (x:Int) (y:Int):GC Tryz.prog 231 [.d (.sc (.int .u64 x)),.d (.sc (.int .u64 y))] (.tup [.d (.sc (.int .u64 ((yy x y).1))),.d (.sc (.int .u64 ((yy x y).2)))]):=by
 refine zA Tryz.func231 ?_
 refine gE [0,1,4,5] ?_
 refine gE [0,1,4,5,6] ?_
 refine gE [0,1,4,5,6,7] ?_
 refine gE [0,1,4,5,6,7,8] ?_
 refine gE [0,1,4,5,6,7,8,9] ?_
 refine zF env true [] [0,1,4,5,6,7,8,9,10] ?_
 refine zF env true [] [0,1,4,5,6,7,9,11] ?_
 refine gE [0,1,4,5,6,7,9,11,12] ?_
 refine gE [0,1,4,5,6,7,9,12,13] ?_
 refine zF env true [] [0,1,4,5,7,9,12,13] ?_
 refine zF env true [] [0,1,4,5] ?_
 refine zF env true [] [4,5] ?_
 refine gT ?_
 rw[yy];rfl
def Ud (a:Int) (b:Int):Int:=if (bif decide (((yy (IntKind.u64.wrap (mxI a (i64.wrap (0-a)))) (IntKind.u64.wrap (mxI b (i64.wrap (0-b))))).1)=0)then decide (((yy (IntKind.u64.wrap (mxI a (i64.wrap (0-a)))) (IntKind.u64.wrap (mxI b (i64.wrap (0-b))))).2)<1099511627776)else false)=true then if (!(decide (a<0)==decide (b<0)))=true then i64.wrap (0-(i64.wrap ((yy (IntKind.u64.wrap (mxI a (i64.wrap (0-a)))) (IntKind.u64.wrap (mxI b (i64.wrap (0-b))))).2)))else i64.wrap ((yy (IntKind.u64.wrap (mxI a (i64.wrap (0-a)))) (IntKind.u64.wrap (mxI b (i64.wrap (0-b))))).2)else if (!(decide (a<0)==decide (b<0)))=true then i64.wrap (0-1099511627776)else 1099511627776
theorem zUk (a:Int) (b:Int):GC Tryz.prog 283 [iG a,iG b] (iG (Ud a b)):=by
 refine zA Tryz.func283 ?_
 refine gE [0,1,4] ?_
 refine zF env true [.call (zOu (IntKind.u64.wrap (mxI a (i64.wrap (0-a)))) (IntKind.u64.wrap (mxI b (i64.wrap (0-b)))))] [0,1,4,5,6] ?_
 refine gE [0,1,4,5,6,7] ?_
 refine gE [0,1,4,6,7,27] ?_
 refine zE ?_ ?_<;>intro c1<;>try simp only[bb,toN]at c1
 ·refine zF env true [] [0,1,4,7] ?_
  refine gE [4,7,34] ?_
  refine zE ?_ ?_<;>intro c2<;>try simp only[bb,toN]at c2
  ·refine zF env true [] [4,7] ?_
   refine gT ?_
   rw[Ud,if_pos (show (bif decide (((yy (IntKind.u64.wrap (mxI a (i64.wrap (0-a)))) (IntKind.u64.wrap (mxI b (i64.wrap (0-b))))).1)=0)then decide (((yy (IntKind.u64.wrap (mxI a (i64.wrap (0-a)))) (IntKind.u64.wrap (mxI b (i64.wrap (0-b))))).2)<1099511627776)else false)=true by (try simp only[bb,toN]);exact c1),if_pos (show (!(decide (a<0)==decide (b<0)))=true by (try simp only[bb,toN]);exact c2)];rfl
  ·refine gE [4] ?_
   refine gT ?_
   rw[Ud,if_pos (show (bif decide (((yy (IntKind.u64.wrap (mxI a (i64.wrap (0-a)))) (IntKind.u64.wrap (mxI b (i64.wrap (0-b))))).1)=0)then decide (((yy (IntKind.u64.wrap (mxI a (i64.wrap (0-a)))) (IntKind.u64.wrap (mxI b (i64.wrap (0-b))))).2)<1099511627776)else false)=true by (try simp only[bb,toN]);exact c1),if_neg (show ¬((!(decide (a<0)==decide (b<0)))=true)by rw[Bool.not_eq_true];(try simp only[bb,toN]);exact c2)];rfl
 ·refine gE [4,7,34] ?_
  refine zE ?_ ?_<;>intro c3<;>try simp only[bb,toN]at c3
  ·refine zF env true [] [4,7] ?_
   refine gT ?_
   rw[Ud,if_neg (show ¬((bif decide (((yy (IntKind.u64.wrap (mxI a (i64.wrap (0-a)))) (IntKind.u64.wrap (mxI b (i64.wrap (0-b))))).1)=0)then decide (((yy (IntKind.u64.wrap (mxI a (i64.wrap (0-a)))) (IntKind.u64.wrap (mxI b (i64.wrap (0-b))))).2)<1099511627776)else false)=true)by rw[Bool.not_eq_true];(try simp only[bb,toN]);exact c1),if_pos (show (!(decide (a<0)==decide (b<0)))=true by (try simp only[bb,toN]);exact c3)];rfl
  ·refine gE [4] ?_
   refine gT ?_
   rw[Ud,if_neg (show ¬((bif decide (((yy (IntKind.u64.wrap (mxI a (i64.wrap (0-a)))) (IntKind.u64.wrap (mxI b (i64.wrap (0-b))))).1)=0)then decide (((yy (IntKind.u64.wrap (mxI a (i64.wrap (0-a)))) (IntKind.u64.wrap (mxI b (i64.wrap (0-b))))).2)<1099511627776)else false)=true)by rw[Bool.not_eq_true];(try simp only[bb,toN]);exact c1),if_neg (show ¬((!(decide (a<0)==decide (b<0)))=true)by rw[Bool.not_eq_true];(try simp only[bb,toN]);exact c3)];rfl
def jh (op:Int) (a:Int) (b:Int):Int:=if op=9 then (zLq (i64.wrap (a+b)))else if op=10 then (zLq (i64.wrap (a-b)))else if op=11 then (Ud a b)else if op=12 then mnI a b else mxI a b
theorem uf (op:Int) (a:Int) (b:Int):GC Tryz.prog 275 [iG op,iG a,iG b] (iG (jh op a b)):=by
 refine zA Tryz.func275 ?_
 refine gE [0,1,2,6] ?_
 refine gE [1,2,6,7] ?_
 refine gE [1,2,6,7,8] ?_
 refine zB ?_ ?_<;>intro c1<;>try simp only[toN]at c1
 ·refine zF env true [.call (KS (i64.wrap (a+b)))] [1,2,6] ?_
  refine gT ?_
  rw[jh,if_pos c1];rfl
 ·refine gE [1,2,6,7,14] ?_
  refine zB ?_ ?_<;>intro c2<;>try simp only[toN]at c2
  ·refine zF env true [.call (KS (i64.wrap (a-b)))] [1,2,6] ?_
   refine gT ?_
   rw[jh,if_neg c1,if_pos c2];rfl
  ·refine gE [1,2,6,7,20] ?_
   refine zB ?_ ?_<;>intro c3<;>try simp only[toN]at c3
   ·refine gR [.call (zUk a b)] [1,2,6] ?_
    refine gT ?_
    rw[jh,if_neg c1,if_neg c2,if_pos c3];rfl
   ·refine gE [1,2,6,25] ?_
    refine zB ?_ ?_<;>intro c4<;>try simp only[toN]at c4
    ·refine gE [1,2,6] ?_
     refine gT ?_
     rw[jh,if_neg c1,if_neg c2,if_neg c3,if_pos c4];rfl
    ·refine gE [6] ?_
     refine gT ?_
     rw[jh,if_neg c1,if_neg c2,if_neg c3,if_neg c4];rfl
def Ki (m:Mch) (v:Int):Cel:=if (bif decide ((m.cells.length:Int)<=v)then true else (!(m.cells.getD v.toNat default).known))=true then ⟨false,0⟩else if ((vb v).1)=1 then (qT (!decide (((m.cells.getD v.toNat default).n)=0)))else ⟨true,(zLq ((m.cells.getD v.toNat default).n))⟩
theorem zYz (m:Mch) (v:Int) (hv:0<=v) (hl:m.cells.length<=9223372036854775807):GC Tryz.prog 246 [mcG m,iG v] (ceG (Ki m v)):=by
 refine zA Tryz.func246 ?_
 refine gE [1,2,4] ?_
 refine gE [1,2,4,20] ?_
 refine zE ?_ ?_<;>intro c1<;>try simp only[bb,toN]at c1
 ·refine gE [1,2,4] ?_
  refine gT ?_
  rw[Ki,if_pos (by (try simp only[bb,toN]);exact c1)];rfl
 ·refine gR [.call (zFt v)] [1,2,4,5] ?_
  refine gE [1,2,4,28] ?_
  refine zB ?_ ?_<;>intro c2<;>try simp only[toN]at c2
  ·refine gR [.call (qI (!decide (((m.cells.getD v.toNat default).n)=0)))] [1,2,4] ?_
   refine gT ?_
   rw[Ki,iN (by (try simp only[bb,toN]);exact c1),if_pos c2];rfl
  ·refine gR [.call (KS ((m.cells.getD v.toNat default).n))] [4] ?_
   refine gT ?_
   rw[Ki,iN (by (try simp only[bb,toN]);exact c1),if_neg c2];rfl
def yC (op:Int) (l:List Cel):Cel:=if op=3 then if (l.getD 0 default).known=true then (qT (decide (((l.getD 0 default).n)=0)))else ⟨false,0⟩else if op=4 then if (bif (Js (l.getD 0 default) (qT (decide (op=5))))then true else (Js (l.getD 1 default) (qT (decide (op=5)))))=true then (qT (decide (op=5)))else if (bif (!(l.getD 0 default).known)then true else (!(l.getD 1 default).known))=true then ⟨false,0⟩else (qT (decide (op=4)))else if op=5 then if (bif (Js (l.getD 0 default) (qT (decide (op=5))))then true else (Js (l.getD 1 default) (qT (decide (op=5)))))=true then (qT (decide (op=5)))else if (bif (!(l.getD 0 default).known)then true else (!(l.getD 1 default).known))=true then ⟨false,0⟩else if op=4 then if op=7 then (qT (decide (((l.getD 0 default).n)<((l.getD 1 default).n))))else if op=8 then (qT (decide (((l.getD 0 default).n)=((l.getD 1 default).n))))else ⟨true,(jh op ((l.getD 0 default).n) ((l.getD 1 default).n))⟩else (qT (decide (op=4)))else if op=6 then if (bif (l.getD 1 default).known then (Js (l.getD 1 default) (l.getD 2 default))else false)=true then (l.getD 1 default)else ⟨false,0⟩else if (bif (!(l.getD 0 default).known)then true else (!(l.getD 1 default).known))=true then ⟨false,0⟩else if op=4 then if op=7 then (qT (decide (((l.getD 0 default).n)<((l.getD 1 default).n))))else if op=8 then (qT (decide (((l.getD 0 default).n)=((l.getD 1 default).n))))else ⟨true,(jh op ((l.getD 0 default).n) ((l.getD 1 default).n))⟩else if op=7 then (qT (decide (((l.getD 0 default).n)<((l.getD 1 default).n))))else if op=8 then (qT (decide (((l.getD 0 default).n)=((l.getD 1 default).n))))else ⟨true,(jh op ((l.getD 0 default).n) ((l.getD 1 default).n))⟩
theorem zXk (op:Int) (l:List Cel) (h1:1<=l.length) (h2:op≠3->2<=l.length) (h3:op=6->3<=l.length):GC Tryz.prog 247 [iG op,.d (.row default ceC l)] (ceG (yC op l)):=by
 refine zA Tryz.func247 ?_
 refine gE [0,1,4] ?_
 refine gE [0,1,4,8] ?_
 refine gE [0,1,4,8,9] ?_
 refine zB ?_ ?_<;>intro c1<;>try simp only[toN]at c1
 ·refine gE [0,1,4,14] ?_
  refine zE ?_ ?_<;>intro c2<;>try simp only[bb,toN]at c2
  ·refine gR [.call (qI (decide (((l.getD 0 default).n)=0)))] [0,1,4] ?_
   refine gT ?_
   rw[yC,if_pos c1,if_pos (by (try simp only[bb,toN]);exact c2)];rfl
  ·refine gE [0,1,4] ?_
   refine gT ?_
   rw[yC,if_pos c1,iN (by (try simp only[bb,toN]);exact c2)];rfl
 ·refine gE [0,1,4,8,22] ?_
  refine zB ?_ ?_<;>intro c3<;>try simp only[toN]at c3
  ·refine zB ?_ ?_<;>intro c4<;>try simp only[toN]at c4
   ·refine gR [.call (qI (decide (op=5)))] [0,1,4,5] ?_
    refine gR [.eq (WT (l.getD 0 default) (qT (decide (op=5)))),.eq (WT (l.getD 1 default) (qT (decide (op=5))))] [0,1,4,5,39] ?_
    refine zE ?_ ?_<;>intro c5<;>try simp only[bb,toN]at c5
    ·refine gE [0,1,4] ?_
     refine gT ?_
     rw[yC,if_neg c1,if_pos c3,if_pos (by (try simp only[bb,toN]);exact c5)];rfl
    ·refine gE [0,1,4,71] ?_
     refine zE ?_ ?_<;>intro c6<;>try simp only[bb,toN]at c6
     ·refine gE [0,1,4] ?_
      refine gT ?_
      rw[yC,if_neg c1,if_pos c3,iN (by (try simp only[bb,toN]);exact c5),if_pos (by (try simp only[bb,toN]);exact c6)];rfl
     ·refine gE [0,4,6,7] ?_
      refine gE [0,4,6,7,81] ?_
      refine gE [0,4,6,7,81,82] ?_
      refine zB ?_ ?_<;>intro c7<;>try simp only[toN]at c7
      ·refine zB ?_ ?_<;>intro c8<;>try simp only[toN]at c8
       ·refine gR [.call (qI (decide (op=4)))] [0,4,6,7] ?_
        refine gT ?_
        rw[yC,if_neg c1,if_pos c3,iN (by (try simp only[bb,toN]);exact c5),iN (by (try simp only[bb,toN]);exact c6)];rfl
       ·exact absurd c3 c8
      ·exact absurd c3 c7
   ·exact absurd c3 c4
  ·refine gE [0,1,4,8,22] ?_
   refine zB ?_ ?_<;>intro c9<;>try simp only[toN]at c9
   ·refine gR [.call (qI (decide (op=5)))] [0,1,4,5] ?_
    refine gR [.eq (WT (l.getD 0 default) (qT (decide (op=5)))),.eq (WT (l.getD 1 default) (qT (decide (op=5))))] [0,1,4,5,39] ?_
    refine zE ?_ ?_<;>intro c10<;>try simp only[bb,toN]at c10
    ·refine gE [0,1,4] ?_
     refine gT ?_
     rw[yC,if_neg c1,if_neg c3,if_pos c9,if_pos (by (try simp only[bb,toN]);exact c10)];rfl
    ·refine gE [0,1,4,71] ?_
     refine zE ?_ ?_<;>intro c11<;>try simp only[bb,toN]at c11
     ·refine gE [0,1,4] ?_
      refine gT ?_
      rw[yC,if_neg c1,if_neg c3,if_pos c9,iN (by (try simp only[bb,toN]);exact c10),if_pos (by (try simp only[bb,toN]);exact c11)];rfl
     ·refine gE [0,4,6,7] ?_
      refine gE [0,4,6,7,81] ?_
      refine gE [0,4,6,7,81,82] ?_
      refine zB ?_ ?_<;>intro c12<;>try simp only[toN]at c12
      ·refine zB ?_ ?_<;>intro c13<;>try simp only[toN]at c13
       ·exact absurd c13 c3
       ·refine gE [0,4,6,7,81,88] ?_
        refine zB ?_ ?_<;>intro c14<;>try simp only[toN]at c14
        ·refine gR [.call (qI (decide (((l.getD 0 default).n)<((l.getD 1 default).n))))] [0,4,6,7] ?_
         refine gT ?_
         rw[yC,if_neg c1,if_neg c3,if_pos c9,iN (by (try simp only[bb,toN]);exact c10),iN (by (try simp only[bb,toN]);exact c11),if_pos c12,if_pos c14];rfl
        ·refine gE [0,4,6,7,94] ?_
         refine zB ?_ ?_<;>intro c15<;>try simp only[toN]at c15
         ·refine gR [.call (qI (decide (((l.getD 0 default).n)=((l.getD 1 default).n))))] [0,4,6,7] ?_
          refine gT ?_
          rw[yC,if_neg c1,if_neg c3,if_pos c9,iN (by (try simp only[bb,toN]);exact c10),iN (by (try simp only[bb,toN]);exact c11),if_pos c12,if_neg c14,if_pos c15];rfl
         ·refine gR [.call (uf op ((l.getD 0 default).n) ((l.getD 1 default).n))] [4] ?_
          refine gT ?_
          rw[yC,if_neg c1,if_neg c3,if_pos c9,iN (by (try simp only[bb,toN]);exact c10),iN (by (try simp only[bb,toN]);exact c11),if_pos c12,if_neg c14,if_neg c15];rfl
      ·refine gE [0,4,6,7,81,82] ?_
       refine zB ?_ ?_<;>intro c16<;>try simp only[toN]at c16
       ·refine gR [.call (qI (decide (op=4)))] [0,4,6,7] ?_
        refine gT ?_
        rw[yC,if_neg c1,if_neg c3,if_pos c9,iN (by (try simp only[bb,toN]);exact c10),iN (by (try simp only[bb,toN]);exact c11),if_neg c12];rfl
       ·exact absurd c9 c16
   ·refine gE [0,1,4,41] ?_
    refine zB ?_ ?_<;>intro c17<;>try simp only[toN]at c17
    ·refine gR [.eq (WT (l.getD 1 default) (l.getD 2 default))] [0,1,4,55] ?_
     refine zE ?_ ?_<;>intro c18<;>try simp only[bb,toN]at c18
     ·refine gE [0,1,4] ?_
      refine gT ?_
      rw[yC,if_neg c1,if_neg c3,if_neg c9,if_pos c17,if_pos (by (try simp only[bb,toN]);exact c18)];rfl
     ·refine gE [0,1,4] ?_
      refine gT ?_
      rw[yC,if_neg c1,if_neg c3,if_neg c9,if_pos c17,iN (by (try simp only[bb,toN]);exact c18)];rfl
    ·refine gE [0,1,4,71] ?_
     refine zE ?_ ?_<;>intro c19<;>try simp only[bb,toN]at c19
     ·refine gE [0,1,4] ?_
      refine gT ?_
      rw[yC,if_neg c1,if_neg c3,if_neg c9,if_neg c17,if_pos (by (try simp only[bb,toN]);exact c19)];rfl
     ·refine gE [0,4,6,7] ?_
      refine gE [0,4,6,7,81] ?_
      refine gE [0,4,6,7,81,82] ?_
      refine zB ?_ ?_<;>intro c20<;>try simp only[toN]at c20
      ·refine zB ?_ ?_<;>intro c21<;>try simp only[toN]at c21
       ·exact absurd c21 c3
       ·refine gE [0,4,6,7,81,88] ?_
        refine zB ?_ ?_<;>intro c22<;>try simp only[toN]at c22
        ·refine gR [.call (qI (decide (((l.getD 0 default).n)<((l.getD 1 default).n))))] [0,4,6,7] ?_
         refine gT ?_
         rw[yC,if_neg c1,if_neg c3,if_neg c9,if_neg c17,iN (by (try simp only[bb,toN]);exact c19),if_pos c20,if_pos c22];rfl
        ·refine gE [0,4,6,7,94] ?_
         refine zB ?_ ?_<;>intro c23<;>try simp only[toN]at c23
         ·refine gR [.call (qI (decide (((l.getD 0 default).n)=((l.getD 1 default).n))))] [0,4,6,7] ?_
          refine gT ?_
          rw[yC,if_neg c1,if_neg c3,if_neg c9,if_neg c17,iN (by (try simp only[bb,toN]);exact c19),if_pos c20,if_neg c22,if_pos c23];rfl
         ·refine gR [.call (uf op ((l.getD 0 default).n) ((l.getD 1 default).n))] [4] ?_
          refine gT ?_
          rw[yC,if_neg c1,if_neg c3,if_neg c9,if_neg c17,iN (by (try simp only[bb,toN]);exact c19),if_pos c20,if_neg c22,if_neg c23];rfl
      ·refine gE [0,4,6,7,81,82] ?_
       refine zB ?_ ?_<;>intro c24<;>try simp only[toN]at c24
       ·exact absurd c24 c9
       ·refine gE [0,4,6,7,81,88] ?_
        refine zB ?_ ?_<;>intro c25<;>try simp only[toN]at c25
        ·refine gR [.call (qI (decide (((l.getD 0 default).n)<((l.getD 1 default).n))))] [0,4,6,7] ?_
         refine gT ?_
         rw[yC,if_neg c1,if_neg c3,if_neg c9,if_neg c17,iN (by (try simp only[bb,toN]);exact c19),if_neg c20,if_pos c25];rfl
        ·refine gE [0,4,6,7,94] ?_
         refine zB ?_ ?_<;>intro c26<;>try simp only[toN]at c26
         ·refine gR [.call (qI (decide (((l.getD 0 default).n)=((l.getD 1 default).n))))] [0,4,6,7] ?_
          refine gT ?_
          rw[yC,if_neg c1,if_neg c3,if_neg c9,if_neg c17,iN (by (try simp only[bb,toN]);exact c19),if_neg c20,if_neg c25,if_pos c26];rfl
         ·refine gR [.call (uf op ((l.getD 0 default).n) ((l.getD 1 default).n))] [4] ?_
          refine gT ?_
          rw[yC,if_neg c1,if_neg c3,if_neg c9,if_neg c17,iN (by (try simp only[bb,toN]);exact c19),if_neg c20,if_neg c25,if_neg c26];rfl
def vo (l:List Int):List D:=[.row default inC l]
def nlC:Option (List Int)->List D
 |none=>[.sc (.slice none 0 0)]
 |some l=>[.row default inC l]
theorem zOo (l:List (List Int)):zP nlC (l.map some)=zP vo l:=by simp[zP,nlC,vo]
def JN {β:Type} (g:Tm->β) (d:β) (l:List Tm) (k:Nat):List β:=(l.take k).map g++List.replicate (l.length-k) d
theorem WE {β:Type} (g:Tm->β) (d:β) (l:List Tm) (k:Nat):(JN g d l k).length=l.length:=by simp[JN];omega
theorem ZAi {β:Type} (g:Tm->β) (d:β) (l:List Tm):JN g d l 0=List.replicate l.length d:=by simp[JN]
theorem ZAh {β:Type} (g:Tm->β) (d:β) {l:List Tm} {k:Nat} (h:¬k<l.length):JN g d l k=l.map g:=by
 rw[JN,List.take_of_length_le (by omega),show l.length-k=0 by omega];simp
theorem Ha {β:Type} (g:Tm->β) (d:β) {l:List Tm} {k:Nat} (h:k<l.length):(JN g d l k).set k (g (l.getD k default))=JN g d l (k+1):=by
 have hl:((l.take k).map g).length=k:=by simp;omega
 rw[JN,List.set_append_right _ _ (by omega),hl,Nat.sub_self,show l.length-k=(l.length-(k+1))+1 by omega,List.replicate_succ,List.set_cons_zero,JN,Jh h,List.map_append]
 simp
def jS (f:Tm->Cel×List Int) (m:Mch) (t:Tm):Cel×List Int:=
 if t.op=0∨t.op=1 then (⟨true,t.n⟩,[])else if t.op=2 then if (Ki m t.n).known=true then (Ki m t.n,[])else (⟨false,0⟩,[t.n])else
 if t.op=6/\((t.args.map fun a=>(f a).1).getD 0 default).known=true then
  ((t.args.map fun a=>(f a).1).getD (2-((t.args.map fun a=>(f a).1).getD 0 default).n).toNat default,(t.args.map fun a=>(f a).2).getD (2-((t.args.map fun a=>(f a).1).getD 0 default).n).toNat default)
 else if (yC t.op (t.args.map fun a=>(f a).1)).known=true then (yC t.op (t.args.map fun a=>(f a).1),[])else (⟨false,0⟩,(t.args.map fun a=>(f a).2).flatten)
def vr:Go.Shelf.Ren:=⟨fun|4=>276|n=>n,fun|0=>0|3=>3|4=>4|9=>9|20=>20|22=>68|25=>3|n=>n,fun n=>n⟩
theorem zAd:Go.Proofs.Lays8.n4 Tryz.prog vr:= {
 mixed:=by kernel_rfl
 f4:=⟨ "slices.Grow[[]int,int]",by kernel_rfl,Tryz.func276.trans (congrArg some (by kernel_rfl))⟩
 t0:=Tryz.underlying0
 a0:=Tryz.isAgg0
 z0:=Tryz.sizeOf0
 v0:=Tryz.zeroValue0
 t3:=Tryz.underlying3
 a3:=Tryz.isAgg3
 z3:=Tryz.sizeOf3
 v3:=Tryz.zeroValue3
 t4:=Tryz.underlying4
 a4:=Tryz.isAgg4
 z4:=Tryz.sizeOf4
 v4:=Tryz.zeroValue4
 t9:=Tryz.underlying9
 a9:=Tryz.isAgg9
 z9:=Tryz.sizeOf9
 v9:=Tryz.zeroValue9
 t20:=Tryz.underlying20
 a20:=Tryz.isAgg20
 z20:=Tryz.sizeOf20
 v20:=Tryz.zeroValue20
 t22:=Tryz.underlying68
 a22:=Tryz.isAgg68
 z22:=Tryz.sizeOf68
 v22:=Tryz.zeroValue68}
theorem zWm (n:Nat) (hn:n<=1000):GM Tryz.prog 276 [.d (.sc (.slice none 0 0)),.d (.sc (.int .i64 n))] [] (.sl 0 1 0 0) [some (.row 3 1 (default:Int) inC [] 0)]:=by
 refine zQl (vs:= #[.slice none 0 0,.int .i64 n]) Tryz.func276 rfl rfl default inC (fun ν F w us hv=> ?_) fun w=> ?_
 ·obtain ⟨l⟩:=us
  match l,hv.1 with
  | [a,b],_=>
    have h0:=hv.2 0 _ a rfl rfl
    have h1:=hv.2 1 _ b rfl rfl
    rw[h0.sc_eq.1,h1.sc_eq.1]
 ·by_cases h:n=0
  ·subst h
   exact (Go.Proofs.Any8.slices_Grow_room zAd none 0 0 0 w (Nat.le_refl _) (by omega) (by omega) (Nat.le_refl _)).mono fun e w' he=> .inl he
  ·obtain ⟨i0,hi0,hs0,hb0,hz0⟩:=(env.ty 3 _ rfl).info
   have hs1:i0.size=1:=hs0
   have hb1:i0.bytes=8:=hb0
   have hz1:i0.zero=some (.int .i64 0):=hz0
   refine (Go.Proofs.Any8.slices_Grow_grow zAd i0 (.int .i64 0) hi0 hz1 (by omega) none 0 0 n [] w (Nat.le_refl _) (by omega) (by rw[hb1];omega) (by omega) (by simp) (fun _=>rfl) (fun a h=>by cases h)).mono fun e w' ⟨he,hw⟩=> .inr ?_
   have hge:=grownCap_ge w (0+n) 0 (vr.t 25)
   have hle:=grownCap_le_maxLen w (0+n) 0 (vr.t 25) (by unfold maxLen;omega)
   refine ⟨_,_,he,hw,hle,?_,fun u hu=> ?_⟩
   ·generalize grownCap w (0+n) 0 (vr.t 25)=q at*
    have e:∀m,(Builtin.zeroCells (Value.cells (.int .i64 0)) m).size=m:=fun m=>by
     show ((Array.range (m*1)).map _).size=m
     simp
    rw[Array.size_append,Array.size_append,e,e]
    simp
    omega
   ·have hone:∀m,∀u,u∈Builtin.zeroCells (Value.cells (.int .i64 0)) m->u= .int .i64 0:=fun m u hu=>by
     obtain ⟨i,_,rfl⟩:=Array.mem_map.1 hu
     show (#[Value.int .i64 0])[i % 1]! =_
     rw[Nat.mod_one];rfl
    simp only[Array.toList_append,List.mem_append,Array.mem_toList_iff]at hu
    rcases hu with (hu|hu)|hu
    ·simp at hu
    ·rw[hone _ u hu];rfl
    ·rw[hone _ u hu];rfl
theorem zLs (ls:List (List Int)) (h:ls.flatten.length<=1000) (hl:ls.length<=1000):GC Tryz.prog 248 [.d (.row default vo ls)] (qX ls.flatten):=by
 have hpre:∀k,k<ls.length->(ls.take (k+1)).flatten=(ls.take k).flatten++ls.getD k default:=fun k hk=>by
  rw[List.take_succ_eq_append_getElem hk,List.flatten_append,List.getD_eq_getElem?_getD,List.getElem?_eq_getElem hk];simp
 have hbnd:∀k,(ls.take k).flatten.length<=1000:=fun k=>by
  have e:ls.flatten=(ls.take k).flatten++(ls.drop k).flatten:=by rw[<-List.flatten_append,List.take_append_drop]
  rw[e,List.length_append]at h;omega
 refine zA Tryz.func248 ?_
 refine gE [0,2] ?_
 refine gE [0,2,3] ?_
 refine gE [0,2,3,9,10,11] ?_
 refine zG (α:=Int×Nat) (fun x=>x.2<=ls.length/\x.1=((ls.take x.2).flatten.length:Int)) (fun x=>[(3,iG x.1),(11,iG x.2)]) (fun _=>[]) (fun x=>ls.length-x.2) (0,0) ⟨Nat.zero_le _,rfl⟩ ?_ (hp:=by (try simp only[zC]);repeat' first|exact trivial|exact rfl|exact zI.refl _|exact zH.refl _|omega|apply And.intro|(simp;done))
 rintro ⟨s,k⟩ ⟨hk,hs⟩
 dsimp only at hk hs⊢
 refine gE [0,2,3,9,10,11,12] ?_
 refine zB (fun c1=> ?_) (fun c1=> ?_)
 ·have hk2:k<ls.length:=by omega
  have hb:=hbnd (k+1)
  have hst:s+((ls.getD k default).length:Int)=((ls.take (k+1)).flatten.length:Int):=by rw[hpre k hk2,List.length_append,hs];omega
  have hw:IntKind.i64.wrap (s+((ls.getD k default).length:Int))=((ls.take (k+1)).flatten.length:Int):=by rw[hst];exact Ze (by unfold inR;omega)
  refine gP [] [0,2,3,5,9,10,11] ?_
  refine gP [] [0,2,3,9,10,11] ?_
  refine gE [0,2,3,9,10,11,20] ?_
  refine zB (fun c2=> ?_) (fun c2=> ?_)
  ·exact absurd c2 (by first|omega|(rw[hw];omega))
  ·refine gP [] [0,2,3,9,10,11] ?_
   exact zD (_,k+1) ⟨hk2,by first|exact hst|exact hw⟩ (hp:=by (try simp only[zC]);repeat' first|exact trivial|exact rfl|exact zI.refl _|exact zH.refl _|omega|apply And.intro|(simp;done)) (hm:=by dsimp only;omega)
 ·have e:k=ls.length:=by omega
  rw[e,List.take_length]at hs
  subst hs
  refine gR [.callm [] (zWm ls.flatten.length (by omega))] [0,2,6] ?_
  refine gE [2,6,25,26,27] ?_
  refine zG (α:=List Int×Nat) (fun x=>x.2<=ls.length/\x.1=(ls.take x.2).flatten) (fun x=>[(27,iG x.2),(6,.sl 0 1 0 x.1.length)]) (fun x=>[(0,some (.row 3 1 (default:Int) inC x.1 0))]) (fun x=>ls.length-x.2) ([],0) ⟨Nat.zero_le _,rfl⟩ ?_ (hp:=by (try simp only[zC]);repeat' first|exact trivial|exact rfl|exact zI.refl _|exact zH.refl _|omega|apply And.intro|(simp;done))
  rintro ⟨xs,j⟩ ⟨hj,hxs⟩
  dsimp only at hj hxs⊢
  refine gE [2,6,25,26,27,28] ?_
  refine zB (fun c3=> ?_) (fun c3=> ?_)
  ·have hj2:j<ls.length:=by omega
   have hst:=hpre j hj2
   have hb:=hbnd (j+1)
   rw[<-hxs]at hst
   rw[hst,List.length_append]at hb
   refine gP [] [2,6,8,25,26,27] ?_
   refine gU [.el default inC (xs++ls.getD j default)] [2,6,25,26,27] ?_
   refine gP [] [2,6,25,26,27] ?_
   exact zD (xs++ls.getD j default,j+1) ⟨hj2,hst.symm⟩ (hp:=by (try simp only[zC]);repeat' first|exact trivial|exact rfl|exact zI.refl _|exact zH.refl _|omega|apply And.intro|(simp;done)) (hm:=by dsimp only;omega)
  ·have e2:j=ls.length:=by omega
   rw[e2,List.take_length]at hxs
   refine gE [2] ?_
   refine gT ?_ (hp:=by simp only[zC];repeat' first|exact trivial|omega|apply And.intro)
   rw[<-hxs];rfl
theorem zTx (f:Tm->Cel×List Int) (m:Mch) (t:Tm) (d:Nat) (hf:∀j,d=j+1->∀i,i<t.args.length->GC Tryz.prog 217 [mcG m,Qe j (t.args.getD i default)] (.tup [ceG (f (t.args.getD i default)).1,qX (f (t.args.getD i default)).2])) (ht:YP d t) (hm:m.cells.length<=9223372036854775807) (hv:t.op=2->0<=t.n) (h1:¬t.op=0->¬t.op=1->¬t.op=2->1<=t.args.length/\(t.op≠3->2<=t.args.length)/\(t.op=6->3<=t.args.length)/\t.args.length<=3) (h6:t.op=6->(f (t.args.getD 0 default)).1.known=true->0<=(f (t.args.getD 0 default)).1.n/\(f (t.args.getD 0 default)).1.n<=1) (hs:(t.args.map fun a=>(f a).2).flatten.length<=1000):GC Tryz.prog 217 [mcG m,Qe d t] (.tup [ceG (jS f m t).1,qX (jS f m t).2]):=by
 have hl:=ht.len
 refine zA Tryz.func217 ?_
 refine gE [2,3,4,5] ?_
 refine gE [2,3,4,5,14] ?_
 refine gE [2,3,4,5,14,15] ?_
 refine zB ?_ ?_<;>intro c1<;>try simp only[toN]at c1
 ·refine zB ?_ ?_<;>intro c2<;>try simp only[toN]at c2
  ·refine gE [2,3,4,5] ?_
   refine Zf env ?_
   rw[jS,if_pos (.inl c1)];exact Ent.tup ⟨Ent.refl _,Ent.nil,trivial⟩
  ·exact absurd c1 c2
 ·refine gE [2,3,4,5,14,15] ?_
  refine zB ?_ ?_<;>intro c3<;>try simp only[toN]at c3
  ·refine gE [2,3,4,5] ?_
   refine Zf env ?_
   rw[jS,if_pos (.inr c3)];exact Ent.tup ⟨Ent.refl _,Ent.nil,trivial⟩
  ·refine gE [2,3,4,5,21] ?_
   refine zB ?_ ?_<;>intro c4<;>try simp only[toN]at c4
   ·refine gR [.call (zYz m t.n (hv (by assumption)) hm)] [2,3,4,5,6] ?_
    refine gE [2,3,4,5,6,28] ?_
    refine zE ?_ ?_<;>intro c5<;>try simp only[bb,toN]at c5
    ·refine gE [2,3,4,5] ?_
     refine Zf env ?_
     rw[jS,if_neg (by omega),if_pos c4,if_pos c5];exact Ent.tup ⟨Ent.refl _,Ent.nil,trivial⟩
    ·refine gR [.el default inC [t.n]] [2,3,4,5] ?_
     refine gT ?_
     rw[jS,if_neg (by omega),if_pos c4,if_neg (by rw[c5];simp)];rfl
   ·refine gR [.el default ceC (List.replicate t.args.length default)] [2,3,4,5,7] ?_ (hp:=(by simp only[zC,bb,toN];repeat' first|exact trivial|exact zI.refl _|exact zH.refl _|exact rfl|exact Nat.le_refl _|omega|apply And.intro|intro _|(rw[zP,List.map_replicate])))
    refine gR [.el default nlC (List.replicate t.args.length none)] [2,3,4,5,7,8] ?_ (hp:=(by simp only[zC,bb,toN];repeat' first|exact trivial|exact zI.refl _|exact zH.refl _|exact rfl|exact Nat.le_refl _|omega|apply And.intro|intro _|(rw[zP,List.map_replicate])))
    refine gE [2,3,4,5,7,8,43,44,45] ?_
    refine zG (α:=Nat) (fun k=>k<=t.args.length) (fun k=>[(45,iG k),(7,.sl 3 2 0 (JN (fun a=>(f a).1) default t.args k).length),(8,.sl 4 1 0 (JN (fun a=>some (f a).2) none t.args k).length)]) (fun k=>[(3,some (.row 74 2 default ceC (JN (fun a=>(f a).1) default t.args k) 0)),(4,some (.row 68 1 default nlC (JN (fun a=>some (f a).2) none t.args k) 0))]) (fun k=>t.args.length-k) 0 (by omega) ?_ (hp:=by simp[zC,ZAi,zP]<;>rfl)
    rintro k hk
    refine gE [2,3,4,5,7,8,43,44,45,46] ?_
    refine zB ?_ ?_<;>intro c6<;>try simp only[toN]at c6
    ·obtain ⟨j,rfl,hfa⟩:=ht.at_ (i:=k) (by omega)
     refine gE [2,3,4,5,7,8,9,10,43,44,45] ?_
     refine gR [.call (hf _ rfl k (by omega)),.el default ceC (JN (fun a=>(f a).1) default t.args (k+1)),.el default nlC (JN (fun a=>some (f a).2) none t.args (k+1))] [2,3,4,5,7,8,43,44,45] ?_ (hp:=(by simp only[zC,bb,toN,WE];repeat' first|exact trivial|exact zI.refl _|exact zH.refl _|exact rfl|exact Nat.le_refl _|omega|apply And.intro|intro _|(rw[<-Ha _ _ (by omega)];exact (ZN (cs:=ceC) (by rw[WE];omega) rfl (by rfl)).symm)|(rw[<-Ha _ _ (by omega)];exact (ZN (cs:=nlC) (x:=some (f (t.args.getD k default)).2) (by rw[WE];omega) rfl (by cases (JN (fun a=>some (f a).2) none t.args k).getD k default<;>rfl)).symm)))
     refine gE [2,3,4,5,7,8,43,44,45] ?_
     refine zD (k+1) ?_ (hp:=by simp[zC,WE])
     omega
    ·obtain ⟨hA,hB,hC,hD⟩:=h1 (by assumption) (by assumption) (by assumption)
     simp only[ZAh _ _ (show ¬k<t.args.length by omega)]
     have eN:(t.args.map fun a=>some (f a).2)=(t.args.map fun a=>(f a).2).map some:=by rw[List.map_map];rfl
     simp only[eN]
     refine QA 4 ?_
     refine ZBp 8 (.d (.row default vo (t.args.map fun a=>(f a).2))) (Ent.rowEq (zOo _)) ?_
     have e0:(t.args.map fun a=>(f a).1).getD 0 default=(f (t.args.getD 0 default)).1:=by simp[List.getD_eq_getElem?_getD,List.getElem?_eq_getElem (show 0<t.args.length by omega)]
     have eL:(t.args.map fun a=>(f a).1).length=t.args.length:=by simp
     have eM:(t.args.map fun a=>(f a).2).length=t.args.length:=by simp
     refine gE [3,4,5,7,8,71] ?_ (hp:=(by simp only[zC,bb,toN,eL];repeat' first|exact trivial|exact zI.refl _|exact zH.refl _|exact rfl|exact Nat.le_refl _|omega|apply And.intro|intro _))
     refine zE ?_ ?_<;>intro c7<;>try simp only[bb,toN]at c7
     ·have h6a:=h6 c7.1 (by rw[<-e0];exact c7.2)
      rw[<-e0]at h6a
      have hC:=hC c7.1
      refine gE [3,4,5,7,8,11] ?_
      refine gE [3,4,5,7,8] ?_ (hp:=(by simp only[zC,bb,toN,eL,eM];repeat' first|exact trivial|exact zI.refl _|exact zH.refl _|exact rfl|exact Nat.le_refl _|omega|apply And.intro|intro _))
      refine gT ?_
      rw[jS,if_neg (by omega),if_neg c4,if_pos c7];simp only[toN];rfl
     ·refine gR [.call (zXk t.op (t.args.map fun a=>(f a).1) (by omega) (by omega) (by omega))] [4,5,8,12] ?_
      refine gE [4,5,8,12,90] ?_
      refine zE ?_ ?_<;>intro c8<;>try simp only[bb,toN]at c8
      ·refine gE [4,5,8] ?_
       refine Zf env ?_
       rw[jS,if_neg (by omega),if_neg c4,if_neg (by intro h;rcases c7 with c7|c7<;>simp_all),if_pos c8];exact Ent.tup ⟨Ent.refl _,Ent.nil,trivial⟩
      ·refine gR [.call (zLs (t.args.map fun a=>(f a).2) hs (by omega))] [4,5] ?_
       refine gT ?_
       rw[jS,if_neg (by omega),if_neg c4,if_neg (by intro h;rcases c7 with c7|c7<;>simp_all),if_neg (by rw[c8];simp)];rfl
theorem zXn (f:Tm->Int×Int) (t:Tm):∀(n i:Nat) (acc:List Int),t.args.length-i=n->i<=t.args.length->acc.length=t.args.length->(yj f t acc i).2=0→
 (∀j,i<=j->j<t.args.length->(f (t.args.getD j default)).2=0)/\∃acc',acc'.length=t.args.length/\(∀j,i<=j->j<t.args.length->acc'.getD j default=(f (t.args.getD j default)).1)/\(∀j,j<i->acc'.getD j default=acc.getD j default)/\yj f t acc i=yj f t acc' t.args.length:=by
 intro n
 induction n with
 |zero=>
  intro i acc h hi hl h0
  obtain rfl:i=t.args.length:=by omega
  exact ⟨fun j a b=>by omega,acc,hl,fun j a b=>by omega,fun j _=>rfl,rfl⟩
 |succ n ih=>
  intro i acc h hi hl h0
  rw[yj,if_pos (by omega)]at h0
  rw[yj,if_pos (by omega)]
  split at h0
  ·rename_i hc
   rw[if_pos hc]
   obtain ⟨h1,acc',h2,h3,h4,h5⟩:=ih (i+1) _ (by omega) (by omega) (by rw[List.length_set];exact hl) h0
   refine ⟨fun j a b=> ?_,acc',h2,fun j a b=> ?_,fun j a=> ?_,h5⟩
   ·by_cases e:j=i
    ·subst e;exact hc
    ·exact h1 j (by omega) b
   ·by_cases e:j=i
    ·subst e
     rw[h4 j (by omega),List.getD_eq_getElem?_getD,List.getElem?_set_self (by omega)];rfl
    ·exact h3 j (by omega) b
   ·rw[h4 j (by omega),List.getD_eq_getElem?_getD,List.getElem?_set_ne (by omega),<-List.getD_eq_getElem?_getD]
  ·rename_i hc;exact absurd h0 hc
theorem uU {f:Tm->Int×Int} {t:Tm} (h:(yW f t).2=0):(∀j,j<t.args.length->(f (t.args.getD j default)).2=0)∧
 (((t.op=0∨t.op=1∨t.op=2)/\yW f t=YX t)∨(3<=t.op/\t.op<=13/\t.args.length=(zf t.op).args.length/\∃acc,(∀j,j<t.args.length->acc.getD j default=(f (t.args.getD j default)).1)/\yW f t=ZC f t acc t.args.length (-1) 0)):=by
 rw[yW]at h⊢
 obtain ⟨h1,acc,h2,h3,_,h5⟩:=zXn f t _ 0 _ rfl (Nat.zero_le _) (by simp) h
 refine ⟨fun j hj=>h1 j (Nat.zero_le _) hj,?_⟩
 rw[h5]at h⊢
 rw[yj,if_neg (by omega)]at h⊢
 split at h
 ·cases h
 ·rename_i c1
  rw[if_neg c1]
  rw[Bool.not_eq_true]at c1
  simp only[bb]at c1
  split at h
  ·rename_i c2
   rw[if_pos c2]
   simp only[bb]at c2
   exact .inl ⟨by omega,rfl⟩
  ·rename_i c2
   rw[if_neg c2]
   rw[Bool.not_eq_true]at c2
   simp only[bb]at c2
   split at h
   ·cases h
   ·rename_i c3
    rw[if_neg c3]
    rw[Bool.not_eq_true]at c3
    simp only[bb]at c3
    exact .inr ⟨by omega,by omega,by omega,acc,fun j hj=>h3 j (Nat.zero_le _) hj,rfl⟩
theorem zGt {t:Tm} (h:(YX t).2=0) (_:t.op=0∨t.op=1∨t.op=2):t.args= []/\(t.op=2->0<=t.n/\(YX t).1=(vb t.n).1)/\(t.op=1->0<=t.n/\t.n<=1)/\(t.op=0->(YX t).1=0):=by
 unfold YX at h⊢
 split at h
 ·cases h
 ·rename_i c1
  rw[if_neg c1]
  refine ⟨List.eq_nil_of_length_eq_zero (by omega),?_⟩
  split at h
  ·rename_i c2;rw[if_pos c2]
   refine ⟨fun e=>by omega,fun e=>by omega,fun _=> ?_⟩
   split<;>rfl
  ·rename_i c2
   rw[if_neg c2]
   split at h
   ·rename_i c3
    rw[if_pos c3]
    refine ⟨fun e=>by omega,fun _=> ?_,fun e=>by omega⟩
    split at h
    ·cases h
    ·rename_i c4
     rw[Bool.not_eq_true]at c4
     simp only[bb]at c4
     exact c4
   ·rename_i c3
    rw[if_neg c3]
    refine ⟨fun _=> ?_,fun e=>by omega,fun e=>by omega⟩
    split at h
    ·cases h
    ·rename_i c4
     rw[if_neg c4]
     refine ⟨?_,rfl⟩
     rw[Bool.not_eq_true]at c4
     unfold vb at c4
     split at c4
     ·cases c4
     ·rename_i c5
      rw[Bool.not_eq_true]at c5
      simp only[bb]at c5
      exact c5.1
theorem zEr {f:Tm->Int×Int} {t:Tm} {acc:List Int} {n:Nat} (ho:t.op=6) (hm:¬acc[1]?.getD 0= -1) (h:(ZC f t acc n (-1) 0).2=0):acc[0]?.getD 0=1/\acc[1]?.getD 0=acc[2]?.getD 0/\(ZC f t acc n (-1) 0).1=acc[1]?.getD 0:=by
 have hs:zf t.op=⟨[1,(-1),(-1)],(-1)⟩:=by rw[ho];rfl
 rw[ZC,hs]at h⊢
 simp at h⊢
 split at h
 ·rename_i h0
  rw[ZC,hs]at h
  simp at h
  rw[if_pos h0]
  rw[ZC,hs]
  simp
  refine ⟨h0,?_⟩
  rw[ZC,hs]at h⊢
  simp[hm]at h⊢
  split at h
  ·rename_i h2
   rw[if_pos h2,ZC,if_neg (by rw[hs];simp)]
   simp[hs]
   exact h2.symm
  ·cases h
 ·cases h
theorem uV {f:Tm->Int×Int} {t:Tm} {acc:List Int} {m:Nat} (hr:¬(zf t.op).result= -1):∀(n k:Nat) (a:Int),(zf t.op).args.length-k=n->(ZC f t acc m a k).2=0->(ZC f t acc m a k).1=(zf t.op).result:=by
 intro n
 induction n with
 |zero=>intro k a hk;rw[ZC,if_neg (by omega),if_neg hr];exact fun _=>rfl
 |succ n ih=>
  intro k a hk
  rw[ZC,if_pos (by omega)]
  repeat' split
  all_goals first|exact ih _ _ (by omega)|(intro h;cases h)
def jI:Nat->Tm->Int×Int
 |0=>yW fun _=>(0,0)
 |k+1=>yW (jI k)
theorem zSa:∀(k:Nat) (t:Tm),YP k t->GC Tryz.prog 245 [Qe k t] (.tup [iG (jI k t).1,iG (jI k t).2]):=by
 intro k
 induction k with
 |zero=>intro t h;exact zHl _ t 0 (fun j e=>by omega) h
 |succ k ih=>intro t h;exact zHl (jI k) t (k+1) (fun j e=>by cases e;exact ih) h
theorem Hq (t:Tm):(YX t).1=0∨(YX t).1=1:=by
 unfold YX
 repeat' split
 all_goals first|exact .inl rfl|exact .inr rfl|skip
 unfold vb
 repeat' split
 all_goals first|exact .inl rfl|exact .inr rfl
theorem Wi (o:Int):o=6/\(zf o).result= -1/\(zf o).args.length=3∨¬o=6/\((zf o).result=0∨(zf o).result=1):=by
 by_cases h:o=6
 ·subst h;exact .inl ⟨rfl,rfl,rfl⟩
 ·refine .inr ⟨h,?_⟩
  unfold zf
  repeat' split
  all_goals first|exact .inl rfl|exact .inr rfl|omega
theorem zHk:∀(k:Nat) (t:Tm),YP k t->(jI k t).2=0->(jI k t).1=0∨(jI k t).1=1:=by
 intro k
 induction k with
 |zero=>
  intro t ht h
  have ha:t.args= []:=ht
  obtain ⟨_,h2⟩:=uU (show (yW (fun _=>(0,0)) t).2=0 from h)
  rcases h2 with ⟨_,h3⟩|⟨_,_,h3,acc,h4,h5⟩
  ·show (yW _ t).1=0∨(yW _ t).1=1
   rw[h3];exact Hq t
  ·show (yW _ t).1=0∨(yW _ t).1=1
   have h':(yW (fun _=>(0,0)) t).2=0:=h
   rw[h5]at h'⊢
   rcases Wi t.op with ⟨_,_,hl⟩|⟨hn,hr⟩
   ·rw[ha,hl]at h3;cases h3
   ·rw[uV (by omega) _ _ _ rfl h'];exact hr
 |succ k ih=>
  intro t ht h
  obtain ⟨h1,h2⟩:=uU (show (yW (jI k) t).2=0 from h)
  have h':(yW (jI k) t).2=0:=h
  rcases h2 with ⟨_,h3⟩|⟨_,_,h3,acc,h4,h5⟩
  ·show (yW _ t).1=0∨(yW _ t).1=1
   rw[h3];exact Hq t
  ·show (yW _ t).1=0∨(yW _ t).1=1
   rw[h5]at h'⊢
   rcases Wi t.op with ⟨ho,_,hl⟩|⟨hn,hr⟩
   ·have e1:=h4 1 (by omega)
    rw[List.getD_eq_getElem?_getD]at e1
    have hi:=ih _ (ht.2 _ (zK (l:=t.args) (i:=1) (by omega))) (h1 1 (by omega))
    have e1':acc[1]?.getD 0=(jI k (t.args.getD 1 default)).1:=e1
    rw[(zEr ho (by rw[e1'];omega) h').2.2,e1']
    exact hi
   ·rw[uV (by omega) _ _ _ rfl h'];exact hr
def Bl (c:Cel):Prop:=c.known=true->0<=c.n/\c.n<=1
theorem zMe (b:Bool):Bl (qT b):=by cases b<;>(intro _;decide)
theorem VL:Bl ⟨false,0⟩:=fun h=>by cases h
theorem zZa (m:Mch) {v:Int} (h:(vb v).1=1):Bl (Ki m v):=by
 unfold Ki
 split
 ·exact VL
 ·exact zMe _
theorem zHj {op:Int} (l:List Cel) (h:op=3∨op=4∨op=5∨op=7∨op=8∨op=6/\Bl (l.getD 1 default)):Bl (yC op l):=by
 unfold yC
 repeat' split
 all_goals first|exact zMe _|exact VL|(exfalso;omega)|(rcases h with h|h|h|h|h|h<;>first|(exfalso;omega)|exact h.2)
theorem zCn {o:Int} (h6:¬o=6) (h:(zf o).result=1):o=3∨o=4∨o=5∨o=7∨o=8:=by
 unfold zf at h
 repeat' split at h
 all_goals first|omega|(simp at h)
def ve (m:Mch):Nat->Tm->Cel×List Int
 |0=>jS (fun _=>(default,[])) m
 |k+1=>jS (ve m k) m
theorem zGc (m:Mch) {f:Tm->Int×Int} {g:Tm->Cel×List Int} {t:Tm} (h:(yW f t).2=0) (h1:(yW f t).1=1) (HB:∀j,j<t.args.length->(f (t.args.getD j default)).2=0->(f (t.args.getD j default)).1=1->Bl (g (t.args.getD j default)).1) (HT:∀j,j<t.args.length->(f (t.args.getD j default)).2=0->¬(f (t.args.getD j default)).1= -1):Bl (jS g m t).1:=by
 obtain ⟨ha,hk⟩:=uU h
 rcases hk with ⟨ho,hl⟩|⟨h3,h13,hlen,acc,hacc,hc⟩
 ·rw[hl]at h h1
  obtain ⟨_,l2,l1,l0⟩:=zGt h ho
  unfold jS
  rcases ho with ho|ho|ho
  ·have:=l0 ho;omega
  ·rw[if_pos (.inr ho)];exact fun _=>l1 ho
  ·rw[if_neg (by omega),if_pos ho]
   split
   ·exact zZa m (by rw[<-(l2 ho).2];exact h1)
   ·exact VL
 ·rw[hc]at h h1
  have hg:∀j,j<t.args.length->(t.args.map fun a=>(g a).1).getD j default=(g (t.args.getD j default)).1:=fun j hj=>by
   simp[List.getD_eq_getElem?_getD,List.getElem?_eq_getElem hj]
  unfold jS
  rw[if_neg (by omega),if_neg (by omega)]
  rcases Wi t.op with ⟨ho,_,hl⟩|⟨hn,hr⟩
  ·have hlen:t.args.length=3:=by omega
   have e0:=hacc 0 (by omega)
   have e1:=hacc 1 (by omega)
   have e2:=hacc 2 (by omega)
   rw[List.getD_eq_getElem?_getD]at e0 e1 e2
   have e1':acc[1]?.getD 0=(f (t.args.getD 1 default)).1:=e1
   have e0':acc[0]?.getD 0=(f (t.args.getD 0 default)).1:=e0
   have e2':acc[2]?.getD 0=(f (t.args.getD 2 default)).1:=e2
   obtain ⟨q0,q1,q2⟩:=zEr ho (by rw[e1'];exact HT 1 (by omega) (ha 1 (by omega))) h
   rw[q2,e1']at h1
   have b0:=HB 0 (by omega) (ha 0 (by omega)) (by rw[<-e0',q0])
   have b1:=HB 1 (by omega) (ha 1 (by omega)) h1
   have b2:=HB 2 (by omega) (ha 2 (by omega)) (by rw[<-e2',<-q1,e1'];exact h1)
   split
   ·rename_i hk
    have hk2:=hk.2
    rw[hg 0 (by omega)]at hk2
    have:=b0 hk2
    show Bl ((t.args.map fun a=>(g a).1).getD _ default)
    rw[hg 0 (by omega)]
    have hx:(2-(g (t.args.getD 0 default)).1.n).toNat=1∨(2-(g (t.args.getD 0 default)).1.n).toNat=2:=by omega
    rcases hx with hx|hx
    ·rw[hx,hg 1 (by omega)];exact b1
    ·rw[hx,hg 2 (by omega)];exact b2
   ·split
    ·exact zHj _ (.inr (.inr (.inr (.inr (.inr ⟨ho,by rw[hg 1 (by omega)];exact b1⟩)))))
    ·exact VL
  ·rw[uV (by omega) _ _ _ rfl h]at h1
   have hb:=zCn hn h1
   rw[if_neg (by intro x;exact hn x.1)]
   split
   ·exact zHj _ (by omega)
   ·exact VL
theorem zTw (m:Mch):∀(k:Nat) (t:Tm),YP k t->(jI k t).2=0->(jI k t).1=1->Bl (ve m k t).1:=by
 intro k
 induction k with
 |zero=>
  intro t ht h h1
  have ha:t.args= []:=ht
  exact zGc m (f:=fun _=>(0,0)) h h1 (fun j hj=>by rw[ha]at hj;simp at hj) (fun j hj=>by rw[ha]at hj;simp at hj)
 |succ k ih=>
  intro t ht h h1
  exact zGc m (f:=jI k) (g:=ve m k) h h1 (fun j hj a b=>ih _ (ht.2 _ (zK hj)) a b) (fun j hj a b=>by have:=zHk k _ (ht.2 _ (zK hj)) a;omega)
def nod:Nat->Tm->Nat
 |0,_=>1
 |k+1,t=>1+(t.args.map (nod k)).sum
theorem zHc {g:Tm->Cel×List Int} {N:Tm->Nat} :∀(l:List Tm),(∀a,a∈l->(g a).2.length<=N a)->(l.map fun a=>(g a).2).flatten.length<=(l.map N).sum:=by
 intro l
 induction l with
 |nil=>intro _;simp
 |cons a l ih=>
  intro h
  have h1:=h a (by simp)
  have h2:=ih fun b hb=>h b (by simp[hb])
  simp only[List.map_cons,List.flatten_cons,List.length_append,List.sum_cons]
  omega
theorem at_le {N:Tm->Nat} :∀(l:List Tm) (i:Nat) (g:Tm->Cel×List Int),(∀a,a∈l->(g a).2.length<=N a)->((l.map fun a=>(g a).2).getD i default).length<=(l.map N).sum:=by
 intro l
 induction l with
 |nil=>intro i g _;simp[List.getD_eq_getElem?_getD];rfl
 |cons a l ih=>
  intro i g h
  have h1:=h a (by simp)
  cases i with
  |zero=>simp only[List.map_cons,List.sum_cons];show (g a).2.length<=_;omega
  |succ i=>
   have h2:=ih i g fun b hb=>h b (by simp[hb])
   simp only[List.map_cons,List.sum_cons]
   show ((l.map fun a=>(g a).2).getD i default).length<=_
   omega
theorem VU (m:Mch) {g:Tm->Cel×List Int} {t:Tm} {N:Tm->Nat} (h:∀a,a∈t.args->(g a).2.length<=N a):(jS g m t).2.length<=1+(t.args.map N).sum:=by
 have h1:=zHc t.args h
 unfold jS
 split
 ·simp
 ·split
  ·split<;>simp
  ·split
   ·have:=at_le t.args ((2-((t.args.map fun a=>(g a).1).getD 0 default).n).toNat) g h
    show ((t.args.map fun a=>(g a).2).getD _ default).length<=_
    omega
   ·split
    ·simp
    ·show ((t.args.map fun a=>(g a).2).flatten).length<=_
     omega
theorem zCr (m:Mch):∀(k:Nat) (t:Tm),YP k t->(ve m k t).2.length<=nod k t:=by
 intro k
 induction k with
 |zero=>
  intro t ht
  have ha:t.args= []:=ht
  have:=VU m (g:=fun _=>(default,[])) (t:=t) (N:=fun _=>0) (fun a _=>by simp)
  rw[ha]at this
  have h2:(jS (fun _=>(default,[])) m t).2.length<=1:=by simpa using this
  exact h2
 |succ k ih=>intro t ht;exact VU m (g:=ve m k) fun a ha=>ih a (ht.2 a ha)
theorem zPa (f:Tm->Int->Int) (t:Tm) (lv:Int) (N:Tm->Nat) (B:Int) (hB:B<=1000) (hlv:1<=lv/\lv<=8) (hb:∀j,j<t.args.length->1<=f (t.args.getD j default) (lv+1)/\f (t.args.getD j default) (lv+1)<=B/\(f (t.args.getD j default) (lv+1)<=60->(N (t.args.getD j default):Int)<=f (t.args.getD j default) (lv+1))) (h60:0<=B):
 ∀(m i:Nat) (a:Int),t.args.length-i=m->i<=t.args.length->1<=a->a<=60->1<=YW f t lv a i/\YW f t lv a i<=60+B/\(YW f t lv a i<=60->a+(((t.args.drop i).map N).sum:Nat)<=YW f t lv a i):=by
 intro m
 induction m with
 |zero=>
  intro i a h hi h1 h2
  obtain rfl:i=t.args.length:=by omega
  rw[YW,if_neg (by omega),jY]
  refine ⟨h1,by omega,fun _=> ?_⟩
  simp
 |succ m ih=>
  intro i a h hi h1 h2
  have hi2:i<t.args.length:=by omega
  obtain ⟨q1,q2,q3⟩:=hb i hi2
  have e1:IntKind.i64.wrap (lv+1)=lv+1:=Ze (by unfold inR;omega)
  have e2:IntKind.i64.wrap (a+f (t.args.getD i default) (lv+1))=a+f (t.args.getD i default) (lv+1):=Ze (by unfold inR;omega)
  have e3:t.args.drop i=t.args.getD i default::t.args.drop (i+1):=by rw[List.drop_eq_getElem_cons hi2,List.getD_eq_getElem?_getD,List.getElem?_eq_getElem hi2];rfl
  rw[YW,if_pos hi2,e1,e2]
  split
  ·rw[jY];exact ⟨by omega,by omega,fun h=>by omega⟩
  ·obtain ⟨r1,r2,r3⟩:=ih (i+1) _ (by omega) hi2 (by omega:1<=a+f (t.args.getD i default) (lv+1)) (by omega)
   refine ⟨r1,r2,fun h=> ?_⟩
   have r4:=r3 h
   have r5:=q3 (by omega)
   rw[e3,List.map_cons,List.sum_cons]
   omega
theorem zVa:∀(k:Nat) (t:Tm) (lv:Int),YP k t->1<=lv->lv<=9->1<=QV k t lv/\QV k t lv<=61+60*(9-lv)/\(QV k t lv<=60->(nod k t:Int)<=QV k t lv):=by
 intro k
 induction k with
 |zero=>
  intro t lv ht h1 h2
  have ha:t.args= []:=ht
  rw[show QV 0 t lv=JM (fun _ _=>0) t lv from rfl,JM]
  split
  ·exact ⟨by omega,by omega,fun h=>by omega⟩
  ·rw[YW,if_neg (by rw[ha];simp),jY];exact ⟨by omega,by omega,fun _=>by show ((1:Nat):Int)<=1;omega⟩
 |succ k ih=>
  intro t lv ht h1 h2
  rw[show QV (k+1) t lv=JM (QV k) t lv from rfl,JM]
  split
  ·exact ⟨by omega,by omega,fun h=>by omega⟩
  ·obtain ⟨r1,r2,r3⟩:=zPa (QV k) t lv (nod k) (61+60*(9-(lv+1))) (by omega) ⟨h1,by omega⟩ (fun j hj=>ih _ _ (ht.2 _ (zK hj)) (by omega) (by omega)) (by omega) _ 0 1 rfl (Nat.zero_le _) (by omega) (by omega)
   refine ⟨r1,by omega,fun h=> ?_⟩
   have:=r3 h
   rw[List.drop_zero]at this
   show ((1+(t.args.map (nod k)).sum:Nat):Int)<=_
   omega
theorem zIj {o:Int} (h1:3<=o) (h2:o<=13):1<=(zf o).args.length/\(o≠3->2<=(zf o).args.length)/\(o=6->3<=(zf o).args.length)/\(zf o).args.length<=3:=by
 have:o=3∨o=4∨o=5∨o=6∨o=7∨o=8∨o=9∨o=10∨o=11∨o=12∨o=13:=by omega
 rcases this with rfl|rfl|rfl|rfl|rfl|rfl|rfl|rfl|rfl|rfl|rfl<;>decide
theorem zTj {N:Tm->Nat} :∀ {l:List Tm} {a:Tm},a∈l->N a<=(l.map N).sum:=by
 intro l
 induction l with
 |nil=>intro a h;cases h
 |cons b l ih=>
  intro a h
  rw[List.map_cons,List.sum_cons]
  rcases List.mem_cons.1 h with rfl|h
  ·omega
  ·have:=ih h;omega
theorem zGb (k:Nat) (m:Mch) (t:Tm) (g:Tm->Cel×List Int) (c:Tm->Int×Int) (hf:∀j,k=j+1->∀i,i<t.args.length->GC Tryz.prog 217 [mcG m,Qe j (t.args.getD i default)] (.tup [ceG (g (t.args.getD i default)).1,qX (g (t.args.getD i default)).2])) (ht:YP k t) (hm:m.cells.length<=9223372036854775807) (hc:(yW c t).2=0) (hB:∀a,a∈t.args->(c a).2=0->(c a).1=1->Bl (g a).1) (hT:∀a,a∈t.args->(c a).2=0->(c a).1=0∨(c a).1=1) (hs:(t.args.map fun a=>(g a).2).flatten.length<=1000):GC Tryz.prog 217 [mcG m,Qe k t] (.tup [ceG (jS g m t).1,qX (jS g m t).2]):=by
 obtain ⟨ha,hk⟩:=uU hc
 refine zTx g m t k hf ht hm ?_ ?_ ?_ hs
 ·intro h2
  rcases hk with ⟨ho,hl⟩|⟨h3,_⟩
  ·rw[hl]at hc
   exact ((zGt hc ho).2.1 h2).1
  ·omega
 ·intro n0 n1 n2
  rcases hk with ⟨ho,hl⟩|⟨h3,h13,hlen,_⟩
  ·omega
  ·rw[hlen];exact zIj h3 h13
 ·intro h6 hkn
  rcases hk with ⟨ho,hl⟩|⟨h3,h13,hlen,acc,hacc,hcc⟩
  ·omega
  ·have hl3:t.args.length=3:=by rw[hlen,h6];rfl
   rw[hcc]at hc
   have e0:=hacc 0 (by omega)
   have e1:=hacc 1 (by omega)
   rw[List.getD_eq_getElem?_getD]at e0 e1
   have e1':acc[1]?.getD 0=(c (t.args.getD 1 default)).1:=e1
   have e0':acc[0]?.getD 0=(c (t.args.getD 0 default)).1:=e0
   have q:=(zEr h6 (by rw[e1'];have:=hT _ (zK (l:=t.args) (i:=1) (by omega)) (ha 1 (by omega));omega) hc).1
   exact hB _ (zK (by omega)) (ha 0 (by omega)) (by rw[<-e0',q]) hkn
theorem zTu (m:Mch) (hm:m.cells.length<=9223372036854775807):∀(k:Nat) (t:Tm),YP k t->(jI k t).2=0->nod k t<=60->GC Tryz.prog 217 [mcG m,Qe k t] (.tup [ceG (ve m k t).1,qX (ve m k t).2]):=by
 intro k
 induction k with
 |zero=>
  intro t ht hc _
  have ha:t.args= []:=ht
  exact zGb 0 m t (fun _=>(default,[])) (fun _=>(0,0)) (fun j e=>by omega) ht hm hc (fun a h=>by rw[ha]at h;cases h) (fun a h=>by rw[ha]at h;cases h) (by rw[ha];simp)
 |succ k ih=>
  intro t ht hc hn
  have hn':1+(t.args.map (nod k)).sum<=60:=hn
  have hfl:=zHc (g:=ve m k) (N:=nod k) t.args fun a ha=>zCr m k a (ht.2 a ha)
  refine zGb (k+1) m t (ve m k) (jI k) (fun j e i hi=> ?_) ht hm hc (fun a ha h1 h2=>zTw m k a (ht.2 a ha) h1 h2) (fun a ha h1=>zHk k a (ht.2 a ha) h1) (by omega)
  cases e
  have h1:=(uU (show (yW (jI k) t).2=0 from hc)).1 i hi
  have h2:=zTj (N:=nod k) (zK (l:=t.args) (i:=i) hi)
  exact ih _ (ht.2 _ (zK hi)) h1 (by omega)
theorem zZk (k:Nat) (m:Mch) (t:Tm) (ht:YP k t) (hm:m.cells.length<=9223372036854775807) (hc:(jI k t).2=0) (h60:¬60<QV k t 1):GC Tryz.prog 217 [mcG m,Qe k t] (.tup [ceG (ve m k t).1,qX (ve m k t).2]):=by
 have h:=(zVa k t 1 ht (by omega) (by omega)).2.2 (by omega)
 exact zTu m hm k t ht hc (by omega)
def QF (k:Nat) (t:Tm):Int×Int:=if 60<(QV k t 1)then (0,6)else ((jI k t).1,(jI k t).2)
theorem US (k:Nat) (t:Tm) (ht:YP k t):GC Tryz.prog 216 [Qe k t] (.tup [iG ((QF k t).1),iG ((QF k t).2)]):=by
 refine zA Tryz.func216 ?_
 refine gE [1,2,3] ?_
 refine gR [.call (zDn k t 1 (by assumption))] [1,2,3,6] ?_
 refine zB ?_ ?_<;>intro c1<;>try simp only[toN]at c1
 ·refine gE [1,2,3] ?_
  refine gT ?_
  rw[QF,if_pos c1];rfl
 ·refine gR [.call (zSa k t (by assumption))] [2,3] ?_
  refine gT ?_
  rw[QF,if_neg c1];rfl
theorem zBd {k:Nat} {t:Tm} (h:(QF k t).2=0):¬60<QV k t 1/\QF k t=jI k t:=by
 unfold QF at h⊢
 split at h
 ·cases h
 ·rename_i hc;rw[if_neg hc];exact ⟨hc,rfl⟩
def zNo (k:Nat) (m:Mch) (t:Tm):Cel×List Int:=ve m k t
theorem zTs (k:Nat) (m:Mch) (t:Tm) (ht:YP k t) (hm:m.cells.length<=9223372036854775807) (hc:(QF k t).2=0):GC Tryz.prog 217 [mcG m,Qe k t] (.tup [ceG (zNo k m t).1,qX (zNo k m t).2]):=zZk k m t ht hm (by rw[<-(zBd hc).2];exact hc) (zBd hc).1
def WS (k:Nat) (t:Tm) (cells:List Cel):Cel:=if ((QF k t).2)=0 then (zNo k (⟨cells⟩:Mch) t).1 else ⟨false,0⟩
theorem zWw (k:Nat) (t:Tm) (cells:List Cel) (ht:YP k t) (hm:cells.length<=9223372036854775807):GC Tryz.prog 179 [Qe k t,.d (.row default ceC cells)] (ceG (WS k t cells)):=by
 refine zA Tryz.func179 ?_
 refine gE [1,2,4] ?_
 refine gR [.call (US k t (by assumption))] [1,2,4,6] ?_
 refine gE [1,2,4,15] ?_
 refine zT ?_ ?_<;>intro c1<;>try simp only[toN]at c1
 ·refine gE [1,2,4] ?_
  refine gT ?_
  rw[WS,if_neg c1];rfl
 ·refine gR [.call (zTs k (⟨cells⟩:Mch) t ht hm (by assumption))] [4,7] ?_
  refine gE [4] ?_
  refine gT ?_
  rw[WS,if_pos c1];rfl
structure FitO (o:Od):Prop where
 ch:o.choices.length<=1000
 ru:o.rules.length<=1000
 tm:∀x,x∈o.rules->YP Dep.d x.term
def Yl (o:Od) (ask:Int):Tm×Int:=if (!(jy ask).2)=true then (⟨0,0,[]⟩,1)else if (zO (fun y=>vK y ask) o.rules 0)<0 then (⟨0,0,[]⟩,4)else if (bif (!decide (((QF Dep.d ((o.rules.getD ((zO (fun y=>vK y ask) o.rules 0).toNat) default).term)).2)=0))then true else (!decide (((QF Dep.d ((o.rules.getD ((zO (fun y=>vK y ask) o.rules 0).toNat) default).term)).1)=((jy ask).1))))=true then (⟨0,0,[]⟩,11)else ((o.rules.getD ((zO (fun y=>vK y ask) o.rules 0).toNat) default).term,0)
theorem zOl (o:Od) (ask:Int) (ho:FitO o):GC Tryz.prog 178 [odG o,iG ask] (.tup [Qe Dep.d ((Yl o ask).1),iG ((Yl o ask).2)]):=by
 have hl:=ho.ru
 refine zA Tryz.func178 ?_
 refine gE [2,3,4,5] ?_
 refine gR [.call (XS ask)] [2,3,4,5,6,7] ?_
 refine gE [2,3,4,5,6,18] ?_
 refine zE ?_ ?_<;>intro c1<;>try simp only[bb,toN]at c1
 ·refine gE [2,3,4,5,6] ?_
  refine Zf env ?_
  rw[Yl,if_pos (by (try simp only[bb,toN]);exact c1)];exact Ent.tup ⟨Ent.agg ⟨Ent.refl _,Ent.refl _,Ent.nil,trivial⟩,Ent.refl _,trivial⟩
 ·refine zv 1 ?_
  refine gR [.call (KB o.rules (by omega) ask)] [2,4,5,6,8] ?_
  refine gE [2,4,5,6,8,25] ?_
  refine zB ?_ ?_<;>intro c2<;>try simp only[toN]at c2
  ·refine gE [2,4,5,6,8] ?_
   refine Zf env ?_
   rw[Yl,iN (by (try simp only[bb,toN]);exact c1),if_pos c2];exact Ent.tup ⟨Ent.agg ⟨Ent.refl _,Ent.refl _,Ent.nil,trivial⟩,Ent.refl _,trivial⟩
  ·have hi:=uJ (fun y=>vK y ask) o.rules 0
   have ht:=ho.tm _ (zK (l:=o.rules) (i:=(zO (fun y=>vK y ask) o.rules 0).toNat) (by omega))
   refine gE [4,5,6,9] ?_
   refine gR [.call (US Dep.d ((o.rules.getD ((zO (fun y=>vK y ask) o.rules 0).toNat) default).term) (by assumption))] [4,5,6,9,10,11] ?_
   refine gE [4,5,9,44] ?_
   refine zE ?_ ?_<;>intro c3<;>try simp only[bb,toN]at c3
   ·refine gE [4,5,9] ?_
    refine Zf env ?_
    rw[Yl,iN (by (try simp only[bb,toN]);exact c1),if_neg c2,if_pos (by (try simp only[bb,toN]);exact c3)];exact Ent.tup ⟨Ent.agg ⟨Ent.refl _,Ent.refl _,Ent.nil,trivial⟩,Ent.refl _,trivial⟩
   ·refine gE [4,5] ?_
    refine gT ?_
    rw[Yl,iN (by (try simp only[bb,toN]);exact c1),if_neg c2,iN (by (try simp only[bb,toN]);exact c3)];rfl
end Go.Gh
