/- Walks by the logic of calls, and plain laws (several texts in one). -/
import Derived.Test.YtlnnombljiecmaaGreatDoorM3
import Derived.Shelf.Strings.Builder1
import Derived.Shelf.Strings.Builder2
import Derived.Shelf.Strings.OnBuilder
import Derived.Shelf.Small.Bits
import Derived.Shelf.Small.Wraps
import Derived.Shelf.Strings.BuilderF
import Derived.Shelf.Strings.BuilderK
import Derived.Shelf.Strings.Builder2Cap
import Derived.Shelf.Strconv.Itoa0
import Derived.Shelf.Strconv.Itoa1
import Derived.Shelf.LaysM
import Derived.Shelf.Strconv.Itoa2
import Derived.Shelf.Strconv.Itoa3
import Derived.Shelf.Sort.Plain
import Derived.Shelf.Bits.Mul64
import Derived.Shelf.Strings.BuilderCap
import Derived.Shelf.Slices.Turned
import Derived.Ground.Names2Prog
import Derived.Shelf.Slices.CompactI
import Derived.Shelf.Slices.SearchI
import Derived.Shelf.Slices.Cells
import Derived.Shelf.Slices.In.SortNone
import Derived.Test.YtlnnombljiecmaaGreatDoorProg
import Derived.Lib.BitFns
import Derived.Lib.ItoaNum
namespace Go.Gh
open Go Go.Proofs
set_option maxRecDepth 1000000
set_option maxHeartbeats 2000000
set_option linter.unusedSimpArgs false
set_option linter.unusedVariables false
set_option linter.unnecessarySimpa false
set_option linter.unusedSectionVars false
variable [Dep]
open Go.RowKit
theorem Yt {α β:Type} [Inhabited α] [Inhabited β] {l:List α} {f:α->β} {i:Nat} (h:i<l.length):(l.map f).getD i default=f (l.getD i default):=by
 rw[List.getD_eq_getElem?_getD,List.getElem?_map,List.getElem?_eq_getElem h,List.getD_eq_getElem?_getD,List.getElem?_eq_getElem h];rfl
theorem XT {α:Type} [Inhabited α] {l:List α} {i:Nat} (h:i<l.length):l.take (i+1)=l.take i++ [l.getD i default]:=by
 rw[List.take_add_one,List.getElem?_eq_getElem h,List.getD_eq_getElem?_getD,List.getElem?_eq_getElem h];rfl
theorem Zt {l:List ByteArray} {i:Nat} (h:i<l.length):ZQ (l.take (i+1)) i=ZQ l i:=by
 have e1:(l.take (i+1)).getD i default=l.getD i default:=by
  rw[List.getD_eq_getElem?_getD,List.getElem?_take_of_lt (by omega),<-List.getD_eq_getElem?_getD]
 have e2:(l.take (i+1)).take i=l.take i:=by rw[List.take_take];congr 1;omega
 rw[ZQ,ZQ,e1,e2]
theorem zEq (r:Rlm) (hr:FitR r):GC Tryz.prog 52 [rlG r] (iG (orE (zU r.currencies 8 fun _=>true) (zU (cityN r) 40 fun i=>Ym r (r.cities.getD i default)))):=by
 have hr1:=hr.cur
 have hr2:=hr.cities
 have hcl:(cityN r).length=r.cities.length:=by simp[cityN]
 have hcs:=hr.cityN.2.1
 refine zA Tryz.func52 ?_
 refine gE [1,2] ?_
 refine zv 0 ?_
 refine gE [1,2,11] ?_
 refine zB ?_ ?_<;>intro c1<;>try simp only[toN]at c1
 ·refine gE [1,2] ?_
  refine gT ?_
  have hA:zU r.currencies 8 (fun _=>true)=6:=if_pos c1
  rw[hA];rfl
 ·refine gE [1,2,3] ?_
  refine zG (α:=Nat) (fun i=>i<=r.currencies.length/\zb r.currencies (fun _=>true) 0=zb r.currencies (fun _=>true) i) (fun i=>[(3,iG i)]) (fun _=>[]) (fun i=>r.currencies.length-i) 0 ⟨by omega,rfl⟩ ?_ (hp:=by simp only[zC];repeat' first|exact trivial|exact zI.refl _|exact zH.refl _|exact rfl|omega|apply And.intro|intro _)
  rintro i ⟨hi,he⟩
  refine gE [1,2,3,16] ?_
  refine zB ?_ ?_<;>intro c2<;>try simp only[toN]at c2
  ·refine gR [.call (Jm r.currencies (by omega) hr.curS i (by omega))] [1,2,3,4] ?_
   refine gE [1,2,3,4,24] ?_
   refine zT ?_ ?_<;>intro c3<;>try simp only[toN]at c3
   ·refine gE [1,2,3] ?_
    refine gT ?_
    have hA:zU r.currencies 8 (fun _=>true)=ZQ r.currencies i:=by rw[zU,if_neg c1,he,zb,if_pos (by omega),if_neg c3]
    rw[hA,orE,if_neg c3];rfl
   ·refine gE [1,2,3] ?_
    refine zD (i+1) ?_ (hp:=by simp only[zC];repeat' first|exact trivial|exact zI.refl _|exact zH.refl _|exact rfl|omega|apply And.intro|intro _)
    refine ⟨by omega,he.trans ?_⟩
    rw[zb,if_pos (by omega),if_pos (by assumption),if_pos rfl]
  ·refine gE [1,2,29] ?_
   refine zB ?_ ?_<;>intro c4<;>try simp only[toN]at c4
   ·refine gE [1,2] ?_
    refine gT ?_
    have hA:zU r.currencies 8 (fun _=>true)=0:=by rw[zU,if_neg c1,he,zb,if_neg (by omega)]
    have hB:zU (cityN r) 40 (fun i=>Ym r (r.cities.getD i default))=6:=if_pos (by rw[hcl];exact c4)
    rw[hA,hB];rfl
   ·refine gE [1,2,5] ?_
    refine yc 5 9 1 (default:ByteArray) ze (by rfl) (by rfl) ?_
    refine gE [1,2,5,6] ?_
    refine zG (α:=Nat) (fun i=>i<=(cityN r).length/\zb (cityN r) (fun i=>Ym r (r.cities.getD i default)) 0=zb (cityN r) (fun i=>Ym r (r.cities.getD i default)) i) (fun i=>[(6,iG i),(5,.sl 1 1 0 ((cityN r).take i).length)]) (fun i=>[(1,some (.row 9 1 (default:ByteArray) ze ((cityN r).take i) ((cityN r).take i).length))]) (fun i=>(cityN r).length-i) 0 ⟨Nat.zero_le _,rfl⟩ ?_ (hp:=by simp only[zC];repeat' first|exact trivial|exact zI.refl _|exact zH.refl _|exact rfl|omega|apply And.intro|intro _)
    rintro k ⟨hk,hf⟩
    have hl:((cityN r).take k).length=k:=by rw[List.length_take];omega
    refine gE [1,2,5,6,34] ?_
    refine zB ?_ ?_<;>intro c5<;>try simp only[toN]at c5
    ·have hnx:(cityN r).take (k+1)=(cityN r).take k++ [(r.cities.getD k default).name]:=by rw[XT (by omega),cityN,Yt (by omega)]
     refine gU [.el default ze [(r.cities.getD k default).name],.el default ze ((cityN r).take k++ [(r.cities.getD k default).name])] [1,2,5,6] ?_
     refine gR [.call (Jm ((cityN r).take k++ [(r.cities.getD k default).name]) (by rw[<-hnx,List.length_take];omega) (fun s hs=>hcs s (List.mem_of_mem_take (hnx▸hs))) k (by rw[<-hnx,List.length_take];omega))] [1,2,5,6,7] ?_ (hp:=(by simp only[zC];repeat' first|exact trivial|exact zI.refl _|exact zH.refl _|exact rfl|omega|apply And.intro|intro _|(simp;done)))
     refine gE [1,2,5,6,7,50] ?_
     refine zT ?_ ?_<;>intro c6<;>try simp only[toN]at c6
     ·refine gE [1,2,5,6] ?_
      refine gT ?_
      have hA:zU r.currencies 8 (fun _=>true)=0:=by rw[zU,if_neg c1,he,zb,if_neg (by omega)]
      have hnm:ZQ (cityN r) k=ZQ ((cityN r).take k++ [(r.cities.getD k default).name]) k:=by rw[<-hnx,Zt (by omega)]
      have hB:zU (cityN r) 40 (fun i=>Ym r (r.cities.getD i default))=ZQ (cityN r) k:=by rw[zU,if_neg (by rw[hcl];exact c4),hf,zb,if_pos (by omega),if_neg (by rw[hnm];exact c6)]
      rw[hA,hB,hnm];rfl
     ·refine gR [.call (zRw r hr (r.cities.getD k default) (zOy hr.city (by omega)))] [1,2,5,6,59] ?_
      refine zE ?_ ?_<;>intro c7<;>try simp only[bb,toN]at c7
      ·refine gE [1,2,5,6] ?_
       refine gT ?_
       have hA:zU r.currencies 8 (fun _=>true)=0:=by rw[zU,if_neg c1,he,zb,if_neg (by omega)]
       have hB:zU (cityN r) 40 (fun i=>Ym r (r.cities.getD i default))=1:=by rw[zU,if_neg (by rw[hcl];exact c4),hf,zb,if_pos (by omega),if_pos (by rw[<-Zt (by omega),hnx];exact c6),if_neg (by rw[c7];simp)]
       rw[hA,hB];rfl
      ·refine gE [1,2,5,6] ?_
       refine zD (k+1) ?_ (hp:=by simp only[zC,hnx];repeat' first|exact trivial|exact zI.refl _|exact zH.refl _|exact rfl|omega|apply And.intro|intro _|(simp;done))
       refine ⟨by omega,hf.trans ?_⟩
       rw[zb,if_pos (by omega),if_pos (by rw[<-Zt (by omega),hnx];assumption),if_pos (by assumption)]
    ·refine gE [2] ?_
     refine gT ?_
     have hA:zU r.currencies 8 (fun _=>true)=0:=by rw[zU,if_neg c1,he,zb,if_neg (by omega)]
     have hB:zU (cityN r) 40 (fun i=>Ym r (r.cities.getD i default))=0:=by rw[zU,if_neg (by rw[hcl];exact c4),hf,zb,if_neg (by omega)]
     rw[hA,hB];rfl
def jA (r:Rlm) (f:Frm):Bool:=wiV f.city 0 ((r.cities.length:Int)-1)&&wiV f.group 0 ((r.groups.length:Int)-1)
def grF (l:List Int) (i:Nat):Bool:=if i<l.length then if wiV (l.getD i default) 0 9=true then grF l (i+1)else false else true
termination_by l.length-i
def jd (r:Rlm):Int:=if (20:Int)<r.groups.length then 6 else if grF r.groups 0=true then zU (firmN r) 200 (fun i=>jA r (r.firms.getD i default))else 1
def jX (r:Rlm):Int:=zU (orderN r) 20 (fun i=>ya (r.orders.getD i default))
theorem zLh (r:Rlm) (hr:FitR r):GC Tryz.prog 53 [rlG r] (iG (jd r)):=by
 have hr1:=hr.groups
 have hr2:=hr.firms
 have hr3:=hr.cities
 have hcl:(firmN r).length=r.firms.length:=by simp[firmN]
 have hcs:=hr.firmN.2.1
 refine zA Tryz.func53 ?_
 refine gE [1,2] ?_
 refine zv 0 ?_
 refine gE [1,2,10] ?_
 refine zB ?_ ?_<;>intro c1<;>try simp only[toN]at c1
 ·refine gE [1,2] ?_
  refine gT ?_
  rw[jd,if_pos c1];rfl
 ·refine gE [1,2,3] ?_
  refine zG (α:=Nat) (fun i=>i<=r.groups.length/\grF r.groups 0=grF r.groups i) (fun i=>[(3,iG i)]) (fun _=>[]) (fun i=>r.groups.length-i) 0 ⟨by omega,rfl⟩ ?_ (hp:=by simp only[zC];repeat' first|exact trivial|exact zI.refl _|exact zH.refl _|exact rfl|omega|apply And.intro|intro _)
  rintro i ⟨hi,he⟩
  refine gE [1,2,3,15] ?_
  refine zB ?_ ?_<;>intro c2<;>try simp only[toN]at c2
  ·refine gR [.call (zu (r.groups.getD i default) 0 9)] [1,2,3,25] ?_
   refine zE ?_ ?_<;>intro c3<;>try simp only[bb,toN]at c3
   ·refine gE [1,2,3] ?_
    refine gT ?_
    have hg:grF r.groups 0=false:=by rw[he,grF,if_pos (by omega),if_neg (by rw[c3];simp)]
    rw[jd,if_neg c1,if_neg (by rw[hg];simp)];rfl
   ·refine gE [1,2,3] ?_
    refine zD (i+1) ?_ (hp:=by simp only[zC];repeat' first|exact trivial|exact zI.refl _|exact zH.refl _|exact rfl|omega|apply And.intro|intro _)
    refine ⟨by omega,he.trans ?_⟩
    rw[grF,if_pos (by omega),if_pos (by assumption)]
  ·refine gE [1,2,29] ?_
   refine zB ?_ ?_<;>intro c4<;>try simp only[toN]at c4
   ·refine gE [1,2] ?_
    refine gT ?_
    have hg:grF r.groups 0=true:=by rw[he,grF,if_neg (by omega)]
    have hB:zU (firmN r) 200 (fun i=>jA r (r.firms.getD i default))=6:=if_pos (by rw[hcl];exact c4)
    rw[jd,if_neg c1,if_pos hg,hB];rfl
   ·refine gE [1,2,4] ?_
    refine yc 4 9 1 (default:ByteArray) ze (by rfl) (by rfl) ?_
    refine gE [1,2,4,5] ?_
    refine zG (α:=Nat) (fun i=>i<=(firmN r).length/\zb (firmN r) (fun i=>jA r (r.firms.getD i default)) 0=zb (firmN r) (fun i=>jA r (r.firms.getD i default)) i) (fun i=>[(5,iG i),(4,.sl 1 1 0 ((firmN r).take i).length)]) (fun i=>[(1,some (.row 9 1 (default:ByteArray) ze ((firmN r).take i) ((firmN r).take i).length))]) (fun i=>(firmN r).length-i) 0 ⟨Nat.zero_le _,rfl⟩ ?_ (hp:=by simp only[zC];repeat' first|exact trivial|exact zI.refl _|exact zH.refl _|exact rfl|omega|apply And.intro|intro _)
    rintro k ⟨hk,hf⟩
    have hl:((firmN r).take k).length=k:=by rw[List.length_take];omega
    refine gE [1,2,4,5,34] ?_
    refine zB ?_ ?_<;>intro c5<;>try simp only[toN]at c5
    ·have hnx:(firmN r).take (k+1)=(firmN r).take k++ [(r.firms.getD k default).name]:=by rw[XT (by omega),firmN,Yt (by omega)]
     refine gU [.el default ze [(r.firms.getD k default).name],.el default ze ((firmN r).take k++ [(r.firms.getD k default).name])] [1,2,4,5] ?_
     refine gR [.call (Jm ((firmN r).take k++ [(r.firms.getD k default).name]) (by rw[<-hnx,List.length_take];omega) (fun s hs=>hcs s (List.mem_of_mem_take (hnx▸hs))) k (by rw[<-hnx,List.length_take];omega))] [1,2,4,5,6] ?_ (hp:=(by simp only[zC];repeat' first|exact trivial|exact zI.refl _|exact zH.refl _|exact rfl|omega|apply And.intro|intro _|(simp;done)))
     refine gE [1,2,4,5,6,50] ?_
     refine zT ?_ ?_<;>intro c6<;>try simp only[toN]at c6
     ·refine gE [1,2,4,5] ?_
      refine gT ?_
      have hg:grF r.groups 0=true:=by rw[he,grF,if_neg (by omega)]
      have hnm:ZQ (firmN r) k=ZQ ((firmN r).take k++ [(r.firms.getD k default).name]) k:=by rw[<-hnx,Zt (by omega)]
      have hB:zU (firmN r) 200 (fun i=>jA r (r.firms.getD i default))=ZQ (firmN r) k:=by rw[zU,if_neg (by rw[hcl];exact c4),hf,zb,if_pos (by omega),if_neg (by rw[hnm];exact c6)]
      rw[jd,if_neg c1,if_pos hg,hB,hnm];rfl
     ·refine gR [.call (zu (r.firms.getD k default).city 0 ((r.cities.length:Int)-1)),.call (zu (r.firms.getD k default).group 0 ((r.groups.length:Int)-1))] [1,2,4,5,77] ?_
      refine zE ?_ ?_<;>intro c7<;>try simp only[bb,toN]at c7
      ·refine gE [1,2,4,5] ?_
       refine gT ?_
       have hg:grF r.groups 0=true:=by rw[he,grF,if_neg (by omega)]
       have hB:zU (firmN r) 200 (fun i=>jA r (r.firms.getD i default))=1:=by rw[zU,if_neg (by rw[hcl];exact c4),hf,zb,if_pos (by omega),if_pos (by rw[<-Zt (by omega),hnx];exact c6),if_neg (by rw[(show jA r (r.firms.getD k default)=false by rw[jA];rcases c7 with h|h<;>simp only[h,Bool.false_and,Bool.and_false])];simp)]
       rw[jd,if_neg c1,if_pos hg,hB];rfl
      ·refine gE [1,2,4,5] ?_
       refine zD (k+1) ?_ (hp:=by simp only[zC,hnx];repeat' first|exact trivial|exact zI.refl _|exact zH.refl _|exact rfl|omega|apply And.intro|intro _|(simp;done))
       refine ⟨by omega,hf.trans ?_⟩
       rw[zb,if_pos (by omega),if_pos (by rw[<-Zt (by omega),hnx];assumption),if_pos (by rw[jA,Bool.and_eq_true];assumption)]
    ·refine gE [2] ?_
     refine gT ?_
     have hg:grF r.groups 0=true:=by rw[he,grF,if_neg (by omega)]
     have hB:zU (firmN r) 200 (fun i=>jA r (r.firms.getD i default))=0:=by rw[zU,if_neg (by rw[hcl];exact c4),hf,zb,if_neg (by omega)]
     rw[jd,if_neg c1,if_pos hg,hB];rfl
theorem Ve (r:Rlm) (hr:FitR r):GC Tryz.prog 54 [rlG r] (iG (jX r)):=by
 have hr2:=hr.orders
 have hcl:(orderN r).length=r.orders.length:=by simp[orderN]
 have hcs:=hr.orderN.2.1
 refine zA Tryz.func54 ?_
 refine gE [1,2] ?_
 refine zv 0 ?_
 refine gE [1,2,9] ?_
 refine zB ?_ ?_<;>intro c1<;>try simp only[toN]at c1
 ·refine gE [1,2] ?_
  refine gT ?_
  have hB:zU (orderN r) 20 (fun i=>ya (r.orders.getD i default))=6:=if_pos (by rw[hcl];exact c1)
  rw[jX,hB];rfl
 ·refine gE [1,2,3] ?_
  refine yc 3 9 1 (default:ByteArray) ze (by rfl) (by rfl) ?_
  refine gE [1,2,3,4] ?_
  refine zG (α:=Nat) (fun i=>i<=(orderN r).length/\zb (orderN r) (fun i=>ya (r.orders.getD i default)) 0=zb (orderN r) (fun i=>ya (r.orders.getD i default)) i) (fun i=>[(4,iG i),(3,.sl 1 1 0 ((orderN r).take i).length)]) (fun i=>[(1,some (.row 9 1 (default:ByteArray) ze ((orderN r).take i) ((orderN r).take i).length))]) (fun i=>(orderN r).length-i) 0 ⟨Nat.zero_le _,rfl⟩ ?_ (hp:=by simp only[zC];repeat' first|exact trivial|exact zI.refl _|exact zH.refl _|exact rfl|omega|apply And.intro|intro _)
  rintro k ⟨hk,hf⟩
  have hl:((orderN r).take k).length=k:=by rw[List.length_take];omega
  refine gE [1,2,3,4,14] ?_
  refine zB ?_ ?_<;>intro c2<;>try simp only[toN]at c2
  ·have hnx:(orderN r).take (k+1)=(orderN r).take k++ [(r.orders.getD k default).name]:=by rw[XT (by omega),orderN,Yt (by omega)]
   have hok:=zOy hr.order (i:=k) (by omega)
   refine gU [.el default ze [(r.orders.getD k default).name],.el default ze ((orderN r).take k++ [(r.orders.getD k default).name])] [1,2,3,4] ?_
   refine gR [.call (Jm ((orderN r).take k++ [(r.orders.getD k default).name]) (by rw[<-hnx,List.length_take];omega) (fun s hs=>hcs s (List.mem_of_mem_take (hnx▸hs))) k (by rw[<-hnx,List.length_take];omega))] [1,2,3,4,5] ?_ (hp:=(by simp only[zC];repeat' first|exact trivial|exact zI.refl _|exact zH.refl _|exact rfl|omega|apply And.intro|intro _|(simp;done)))
   refine gE [1,2,3,4,5,30] ?_
   refine zT ?_ ?_<;>intro c3<;>try simp only[toN]at c3
   ·refine gE [1,2,3,4] ?_
    refine gT ?_
    have hnm:ZQ (orderN r) k=ZQ ((orderN r).take k++ [(r.orders.getD k default).name]) k:=by rw[<-hnx,Zt (by omega)]
    have hB:zU (orderN r) 20 (fun i=>ya (r.orders.getD i default))=ZQ (orderN r) k:=by rw[zU,if_neg (by rw[hcl];exact c1),hf,zb,if_pos (by omega),if_neg (by rw[hnm];exact c3)]
    rw[jX,hB,hnm];rfl
   ·refine gR [.call (zJf (r.orders.getD k default) hok.2.1 hok.2.2)] [1,2,3,4,38] ?_
    refine zE ?_ ?_<;>intro c4<;>try simp only[bb,toN]at c4
    ·refine gE [1,2,3,4] ?_
     refine gT ?_
     have hB:zU (orderN r) 20 (fun i=>ya (r.orders.getD i default))=1:=by rw[zU,if_neg (by rw[hcl];exact c1),hf,zb,if_pos (by omega),if_pos (by rw[<-Zt (by omega),hnx];exact c3),if_neg (by rw[c4];simp)]
     rw[jX,hB];rfl
    ·refine gE [1,2,3,4] ?_
     refine zD (k+1) ?_ (hp:=by simp only[zC,hnx];repeat' first|exact trivial|exact zI.refl _|exact zH.refl _|exact rfl|omega|apply And.intro|intro _|(simp;done))
     refine ⟨by omega,hf.trans ?_⟩
     rw[zb,if_pos (by omega),if_pos (by rw[<-Zt (by omega),hnx];assumption),if_pos (by assumption)]
  ·refine gE [2] ?_
   refine gT ?_
   have hB:zU (orderN r) 20 (fun i=>ya (r.orders.getD i default))=0:=by rw[zU,if_neg (by rw[hcl];exact c1),hf,zb,if_neg (by omega)]
   rw[jX,hB];rfl
def XQ (r:Rlm) (u:Us):Bool:=(!wiV u.fr 0 ((r.cities.length:Int)-1)|| !wiV u.dst 0 ((r.cities.length:Int)-1))|| !wiV u.days 1 20000
def Wf (r:Rlm) (i:Nat):Int:=if i<r.usances.length then if XQ r (r.usances.getD i default)=true then 1 else if usI (r.usances.take i) (r.usances.getD i default) 0=true then 5 else Wf r (i+1)else 0
termination_by r.usances.length-i
def zCc (r:Rlm):Int:=if (100:Int)<r.usances.length then 6 else Wf r 0
def ur (r:Rlm) (x:Rt):Bool:=((!wiV x.fr 0 ((r.currencies.length:Int)-1)|| !wiV x.dst 0 ((r.currencies.length:Int)-1))||decide (x.fr=x.dst))||((!wiV x.num 1 1073741824|| !wiV x.den 1 1073741824)|| !wiV x.since 0 100000)
def Qr (r:Rlm) (i:Nat):Bool:=if i<r.rates.length then if ur r (r.rates.getD i default)=true then false else Qr r (i+1)else true
termination_by r.rates.length-i
def UE (r:Rlm) (x:Ht):Bool:=(!wiV x.ord 0 ((r.orders.length:Int)-1)|| !wiV x.fr 0 x.dst)||decide (100000<x.dst)
def WH (r:Rlm) (i:Nat):Bool:=if i<r.halts.length then if UE r (r.halts.getD i default)=true then false else WH r (i+1)else true
termination_by r.halts.length-i
def jV (r:Rlm):Int:=if (100:Int)<r.rates.length then 6 else if Qr r 0=true then if (20:Int)<r.halts.length then 6 else if WH r 0=true then 0 else 1 else 1
def KU (r:Rlm):Int:=orE (zU r.currencies 8 fun _=>true) (zU (cityN r) 40 fun i=>Ym r (r.cities.getD i default))
def ZJ (r:Rlm):Int:=orE (KU r) (orE (jd r) (orE (jX r) (orE (zCc r) (jV r))))
theorem zMp {α:Type} [Inhabited α] {l:List α} {k j:Nat} (h:j<k):(l.take k).getD j default=l.getD j default:=by
 rw[List.getD_eq_getElem?_getD,List.getElem?_take_of_lt h,<-List.getD_eq_getElem?_getD]
theorem XR (r:Rlm) (hr:FitR r):GC Tryz.prog 55 [rlG r] (iG (zCc r)):=by
 have hr1:=hr.usances
 have hr2:=hr.cities
 refine zA Tryz.func55 ?_
 refine gE [1,2] ?_
 refine zv 0 ?_
 refine gE [1,2,9] ?_
 refine zB ?_ ?_<;>intro c1<;>try simp only[toN]at c1
 ·refine gE [1,2] ?_
  refine gT ?_
  rw[zCc,if_pos c1];rfl
 ·refine gE [1,2,3] ?_
  refine zG (α:=Nat) (fun i=>i<=r.usances.length/\Wf r 0=Wf r i) (fun i=>[(3,iG i)]) (fun _=>[]) (fun i=>r.usances.length-i) 0 ⟨Nat.zero_le _,rfl⟩ ?_ (hp:=by simp only[zC];repeat' first|exact trivial|exact zI.refl _|exact zH.refl _|exact rfl|omega|apply And.intro|intro _)
  rintro i ⟨hi,he⟩
  refine gE [1,2,3,14] ?_
  refine zB ?_ ?_<;>intro c2<;>try simp only[toN]at c2
  ·refine gE [1,2,3,4] ?_
   refine gR [.call (zu (r.usances.getD i default).fr 0 ((r.cities.length:Int)-1)),.call (zu (r.usances.getD i default).dst 0 ((r.cities.length:Int)-1)),.call (zu (r.usances.getD i default).days 1 20000)] [1,2,3,4,45] ?_
   refine zE ?_ ?_<;>intro c3<;>try simp only[bb,toN]at c3
   ·refine gE [1,2,3,4] ?_
    refine gT ?_
    rw[zCc,if_neg c1,he,Wf,if_pos (by omega),if_pos (by rcases c3 with (h|h)|h<;>simp only[XQ,h,Bool.not_false,Bool.true_or,Bool.or_true])];rfl
   ·refine gE [1,2,3,4,5] ?_
    refine zG (α:=Nat) (fun k=>k<=i/\usI (r.usances.take i) (r.usances.getD i default) 0=usI (r.usances.take i) (r.usances.getD i default) k) (fun k=>[(5,iG k)]) (fun _=>[]) (fun k=>i-k) 0 ⟨Nat.zero_le _,rfl⟩ ?_ (hp:=by simp only[zC];repeat' first|exact trivial|exact zI.refl _|exact zH.refl _|exact rfl|omega|apply And.intro|intro _)
    rintro k ⟨hk,hf⟩
    refine gE [1,2,3,4,5,48] ?_
    refine zB ?_ ?_<;>intro c4<;>try simp only[toN]at c4
    ·refine gE [1,2,3,4,5,70] ?_
     refine zE ?_ ?_<;>intro c5<;>try simp only[bb,toN]at c5
     ·refine gE [1,2,3,4,5] ?_
      refine gT ?_
      have hus:XQ r (r.usances.getD i default)=false:=by rw[XQ,c3.1.1,c3.1.2,c3.2];rfl
      have hq:usI (r.usances.take i) (r.usances.getD i default) 0=true:=by rw[hf,usI,if_pos (by rw[List.length_take];omega),if_pos (by rw[zMp (by omega)];simp only[Kj,Bool.and_eq_true,decide_eq_true_eq];omega)]
      rw[zCc,if_neg c1,he,Wf,if_pos (by omega),if_neg (by rw[hus];simp),if_pos hq];rfl
     ·refine gE [1,2,3,4,5] ?_
      refine zD (k+1) ?_ (hp:=by simp only[zC];repeat' first|exact trivial|exact zI.refl _|exact zH.refl _|exact rfl|omega|apply And.intro|intro _)
      refine ⟨by omega,hf.trans ?_⟩
      rw[usI,if_pos (by rw[List.length_take];omega),if_neg (by rw[zMp (by omega)];simp only[Kj,Bool.and_eq_true,decide_eq_true_eq];omega)]
    ·refine gE [1,2,3] ?_
     refine zD (i+1) ?_ (hp:=by simp only[zC];repeat' first|exact trivial|exact zI.refl _|exact zH.refl _|exact rfl|omega|apply And.intro|intro _)
     refine ⟨by omega,he.trans ?_⟩
     have hus:XQ r (r.usances.getD i default)=false:=by rw[XQ,c3.1.1,c3.1.2,c3.2];rfl
     have hq:usI (r.usances.take i) (r.usances.getD i default) 0=false:=by rw[hf,usI,if_neg (by rw[List.length_take];omega)]
     rw[Wf,if_pos (by omega),if_neg (by rw[hus];simp),if_neg (by rw[hq];simp)]
  ·refine gE [2] ?_
   refine gT ?_
   rw[zCc,if_neg c1,he,Wf,if_neg (by omega)];rfl
theorem qC (r:Rlm) (hr:FitR r):GC Tryz.prog 56 [rlG r] (iG (jV r)):=by
 have hr1:=hr.rates
 have hr2:=hr.halts
 have hr3:=hr.cur
 have hr4:=hr.orders
 refine zA Tryz.func56 ?_
 refine gE [1,2] ?_
 refine zv 0 ?_
 refine gE [1,2,10] ?_
 refine zB ?_ ?_<;>intro c1<;>try simp only[toN]at c1
 ·refine gE [1,2] ?_
  refine gT ?_
  rw[jV,if_pos c1];rfl
 ·refine gE [1,2,3] ?_
  refine zG (α:=Nat) (fun i=>i<=r.rates.length/\Qr r 0=Qr r i) (fun i=>[(3,iG i)]) (fun _=>[]) (fun i=>r.rates.length-i) 0 ⟨Nat.zero_le _,rfl⟩ ?_ (hp:=by simp only[zC];repeat' first|exact trivial|exact zI.refl _|exact zH.refl _|exact rfl|omega|apply And.intro|intro _)
  rintro i ⟨hi,he⟩
  refine gE [1,2,3,15] ?_
  refine zB ?_ ?_<;>intro c2<;>try simp only[toN]at c2
  ·refine gE [1,2,3,4] ?_
   refine gR [.call (zu (r.rates.getD i default).fr 0 ((r.currencies.length:Int)-1)),.call (zu (r.rates.getD i default).dst 0 ((r.currencies.length:Int)-1))] [1,2,3,4,47] ?_
   refine zE ?_ ?_<;>intro c3<;>try simp only[bb,toN]at c3
   ·refine gE [1,2,3,4] ?_
    refine gT ?_
    have hx:ur r (r.rates.getD i default)=true:=by rcases c3 with (h|h)|h<;>simp only[ur,h,decide_true,Bool.not_false,Bool.true_or,Bool.or_true]
    have hg:Qr r 0=false:=by rw[he,Qr,if_pos (by omega),if_pos hx]
    rw[jV,if_neg c1,if_neg (by rw[hg];simp)];rfl
   ·refine gR [.call (zu (r.rates.getD i default).num 1 1073741824),.call (zu (r.rates.getD i default).den 1 1073741824),.call (zu (r.rates.getD i default).since 0 100000)] [1,2,3,63] ?_
    refine zE ?_ ?_<;>intro c4<;>try simp only[bb,toN]at c4
    ·refine gE [1,2,3] ?_
     refine gT ?_
     have hx:ur r (r.rates.getD i default)=true:=by rcases c4 with (h|h)|h<;>simp only[ur,h,Bool.not_false,Bool.true_or,Bool.or_true]
     have hg:Qr r 0=false:=by rw[he,Qr,if_pos (by omega),if_pos hx]
     rw[jV,if_neg c1,if_neg (by rw[hg];simp)];rfl
    ·refine gE [1,2,3] ?_
     refine zD (i+1) ?_ (hp:=by simp only[zC];repeat' first|exact trivial|exact zI.refl _|exact zH.refl _|exact rfl|omega|apply And.intro|intro _)
     refine ⟨by omega,he.trans ?_⟩
     have hx:ur r (r.rates.getD i default)=false:=by rw[ur,c3.1.1,c3.1.2,decide_eq_false c3.2,c4.1.1,c4.1.2,c4.2];rfl
     rw[Qr,if_pos (by omega),if_neg (by rw[hx];simp)]
  ·refine gE [1,2,67] ?_
   refine zB ?_ ?_<;>intro c5<;>try simp only[toN]at c5
   ·refine gE [1,2] ?_
    refine gT ?_
    have hg:Qr r 0=true:=by rw[he,Qr,if_neg (by omega)]
    rw[jV,if_neg c1,if_pos hg,if_pos (by assumption)];rfl
   ·refine gE [1,2,5] ?_
    refine zG (α:=Nat) (fun i=>i<=r.halts.length/\WH r 0=WH r i) (fun i=>[(5,iG i)]) (fun _=>[]) (fun i=>r.halts.length-i) 0 ⟨Nat.zero_le _,rfl⟩ ?_ (hp:=by simp only[zC];repeat' first|exact trivial|exact zI.refl _|exact zH.refl _|exact rfl|omega|apply And.intro|intro _)
    rintro k ⟨hk,hf⟩
    refine gE [1,2,5,72] ?_
    refine zB ?_ ?_<;>intro c6<;>try simp only[toN]at c6
    ·refine gE [1,2,5,6] ?_
     refine gR [.call (zu (r.halts.getD k default).ord 0 ((r.orders.length:Int)-1)),.call (zu (r.halts.getD k default).fr 0 (r.halts.getD k default).dst)] [1,2,5,100] ?_
     refine zE ?_ ?_<;>intro c7<;>try simp only[bb,toN]at c7
     ·refine gE [1,2,5] ?_
      refine gT ?_
      have hg:Qr r 0=true:=by rw[he,Qr,if_neg (by omega)]
      have hx:UE r (r.halts.getD k default)=true:=by
       rcases c7 with (h|h)|h
       ·simp only[UE,h,Bool.not_false,Bool.true_or]
       ·simp only[UE,h,Bool.not_false,Bool.true_or,Bool.or_true]
       ·simp only[UE,decide_eq_true h,Bool.or_true]
      have hh:WH r 0=false:=by rw[hf,WH,if_pos (by omega),if_pos hx]
      rw[jV,if_neg c1,if_pos hg,if_neg (by assumption),if_neg (by rw[hh];simp)];rfl
     ·refine gE [1,2,5] ?_
      refine zD (k+1) ?_ (hp:=by simp only[zC];repeat' first|exact trivial|exact zI.refl _|exact zH.refl _|exact rfl|omega|apply And.intro|intro _)
      have hx:UE r (r.halts.getD k default)=false:=by rw[UE,c7.1.1,c7.1.2,decide_eq_false (by omega)];rfl
      refine ⟨by omega,hf.trans ?_⟩
      rw[WH,if_pos (by omega),if_neg (by rw[hx];simp)]
    ·refine gE [2] ?_
     refine gT ?_
     have hg:Qr r 0=true:=by rw[he,Qr,if_neg (by omega)]
     have hh:WH r 0=true:=by rw[hf,WH,if_neg (by omega)]
     rw[jV,if_neg c1,if_pos hg,if_neg (by assumption),if_pos hh];rfl
theorem XG (r:Rlm) (hr:FitR r):GC Tryz.prog 21 [rlG r] (iG (ZJ r)):=by
 refine zA Tryz.func21 ?_
 refine gE [1,2] ?_
 refine zv 0 ?_
 refine gR [.call (show GC Tryz.prog 52 [rlG r] (iG (KU r))from zEq r hr)] [1,2,3] ?_
 refine gE [1,2,3,7] ?_
 refine zB ?_ ?_<;>intro c1<;>try simp only[toN]at c1
 ·refine gR [.call (zLh r hr)] [1,2,3] ?_
  refine gE [1,2,3,11] ?_
  refine zB ?_ ?_<;>intro c2<;>try simp only[toN]at c2
  ·refine gR [.call (Ve r hr)] [1,2,3] ?_
   refine gE [1,2,3,15] ?_
   refine zB ?_ ?_<;>intro c3<;>try simp only[toN]at c3
   ·refine gR [.call (XR r hr)] [1,2,3] ?_
    refine gE [1,2,3,19] ?_
    refine zB ?_ ?_<;>intro c4<;>try simp only[toN]at c4
    ·refine gR [.call (qC r hr)] [2,3] ?_
     refine gE [2] ?_
     refine gT ?_
     first|contradiction|(simp only[Zz,ZJ,orE];simp[*])
    ·refine gE [2] ?_
     refine gT ?_
     first|contradiction|(simp only[Zz,ZJ,orE];simp[*])
   ·refine gE [1,2,3,19] ?_
    refine zB ?_ ?_<;>intro c5<;>try simp only[toN]at c5
    ·refine gR [.call (qC r hr)] [2,3] ?_
     refine gE [2] ?_
     refine gT ?_
     first|contradiction|(simp only[Zz,ZJ,orE];simp[*])
    ·refine gE [2] ?_
     refine gT ?_
     first|contradiction|(simp only[Zz,ZJ,orE];simp[*])
  ·refine gE [1,2,3,15] ?_
   refine zB ?_ ?_<;>intro c6<;>try simp only[toN]at c6
   ·refine gR [.call (XR r hr)] [1,2,3] ?_
    refine gE [1,2,3,19] ?_
    refine zB ?_ ?_<;>intro c7<;>try simp only[toN]at c7
    ·refine gR [.call (qC r hr)] [2,3] ?_
     refine gE [2] ?_
     refine gT ?_
     first|contradiction|(simp only[Zz,ZJ,orE];simp[*])
    ·refine gE [2] ?_
     refine gT ?_
     first|contradiction|(simp only[Zz,ZJ,orE];simp[*])
   ·refine gE [1,2,3,19] ?_
    refine zB ?_ ?_<;>intro c8<;>try simp only[toN]at c8
    ·refine gR [.call (qC r hr)] [2,3] ?_
     refine gE [2] ?_
     refine gT ?_
     first|contradiction|(simp only[Zz,ZJ,orE];simp[*])
    ·refine gE [2] ?_
     refine gT ?_
     first|contradiction|(simp only[Zz,ZJ,orE];simp[*])
 ·refine gE [1,2,3,11] ?_
  refine zB ?_ ?_<;>intro c9<;>try simp only[toN]at c9
  ·refine gR [.call (Ve r hr)] [1,2,3] ?_
   refine gE [1,2,3,15] ?_
   refine zB ?_ ?_<;>intro c10<;>try simp only[toN]at c10
   ·refine gR [.call (XR r hr)] [1,2,3] ?_
    refine gE [1,2,3,19] ?_
    refine zB ?_ ?_<;>intro c11<;>try simp only[toN]at c11
    ·refine gR [.call (qC r hr)] [2,3] ?_
     refine gE [2] ?_
     refine gT ?_
     first|contradiction|(simp only[Zz,ZJ,orE];simp[*])
    ·refine gE [2] ?_
     refine gT ?_
     first|contradiction|(simp only[Zz,ZJ,orE];simp[*])
   ·refine gE [1,2,3,19] ?_
    refine zB ?_ ?_<;>intro c12<;>try simp only[toN]at c12
    ·refine gR [.call (qC r hr)] [2,3] ?_
     refine gE [2] ?_
     refine gT ?_
     first|contradiction|(simp only[Zz,ZJ,orE];simp[*])
    ·refine gE [2] ?_
     refine gT ?_
     first|contradiction|(simp only[Zz,ZJ,orE];simp[*])
  ·refine gE [1,2,3,15] ?_
   refine zB ?_ ?_<;>intro c13<;>try simp only[toN]at c13
   ·refine gR [.call (XR r hr)] [1,2,3] ?_
    refine gE [1,2,3,19] ?_
    refine zB ?_ ?_<;>intro c14<;>try simp only[toN]at c14
    ·refine gR [.call (qC r hr)] [2,3] ?_
     refine gE [2] ?_
     refine gT ?_
     first|contradiction|(simp only[Zz,ZJ,orE];simp[*])
    ·refine gE [2] ?_
     refine gT ?_
     first|contradiction|(simp only[Zz,ZJ,orE];simp[*])
   ·refine gE [1,2,3,19] ?_
    refine zB ?_ ?_<;>intro c15<;>try simp only[toN]at c15
    ·refine gR [.call (qC r hr)] [2,3] ?_
     refine gE [2] ?_
     refine gT ?_
     first|contradiction|(simp only[Zz,ZJ,orE];simp[*])
    ·refine gE [2] ?_
     refine gT ?_
     first|contradiction|(simp only[Zz,ZJ,orE];simp[*])
theorem grF_p {l:List Int} {i:Nat} (h:i<l.length):grF l i=if wiV (l.getD i default) 0 9=true then grF l (i+1)else false:=by rw[grF,if_pos h]
theorem zQi {l:List Int} {i:Nat} (h:i<l.length):Zw l i=if inV (l.getD i default) 10=true then Zw l (i+1)else false:=by rw[Zw,if_pos h]
theorem odF_p {l:List Cho} {i:Nat} (h:i<l.length):odF l i=if odB l i=true then false else odF l (i+1):=by rw[odF,if_pos h]
theorem ZCc {l:List Cho} {i:Nat} (h:i<l.length):wD l i=if inV (l.getD i default).by_ 5=true then wD l (i+1)else false:=by rw[wD,if_pos h]
theorem zGe {l:List Int} {lo hi:Int} {i:Nat} (h:i<l.length):zg l lo hi i=if yS l lo hi i=true then false else zg l lo hi (i+1):=by rw[zg,if_pos h]
theorem ruF_p {l:List Rul} {i:Nat} (h:i<l.length):ruF l i=if ruB l i=true then false else ruF l (i+1):=by rw[ruF,if_pos h]
theorem zZc {r:Rlm} {i:Nat} (h:i<r.usances.length):Wf r i=if XQ r (r.usances.getD i default)=true then 1 else if usI (r.usances.take i) (r.usances.getD i default) 0=true then 5 else Wf r (i+1):=by rw[Wf,if_pos h]
theorem usF_p {r:Rlm} {i:Nat} (h:i<r.usances.length):usF r i=if VK r (r.usances.getD i default)=true then 1 else if usI (r.usances.take i) (r.usances.getD i default) 0=true then 5 else usF r (i+1):=by rw[usF,if_pos h]
theorem zZo {r:Rlm} {i:Nat} (h:i<r.rates.length):Qr r i=if ur r (r.rates.getD i default)=true then false else Qr r (i+1):=by rw[Qr,if_pos h]
theorem rtF_p {r:Rlm} {i:Nat} (h:i<r.rates.length):rtF r i=if wu r (r.rates.getD i default)=true then false else rtF r (i+1):=by rw[rtF,if_pos h]
theorem ZBc {r:Rlm} {i:Nat} (h:i<r.halts.length):WH r i=if UE r (r.halts.getD i default)=true then false else WH r (i+1):=by rw[WH,if_pos h]
theorem htF_p {r:Rlm} {i:Nat} (h:i<r.halts.length):htF r i=if WI r (r.halts.getD i default)=true then false else htF r (i+1):=by rw[htF,if_pos h]
theorem Ub {l:List Int} {lo hi:Int} :∀(k i:Nat),l.length-i=k->zg l lo hi i=true->∀j,i<=j->j<l.length->lo<=l.getD j default/\l.getD j default<=hi:=by
 intro k
 induction k with
 |zero=>intro i hk h j h1 h2;omega
 |succ k ih=>
  intro i hk h j h1 h2
  rw[zg,if_pos (by omega)]at h
  split at h
  ·cases h
  ·rename_i hb
   simp only[yS,Bool.or_eq_true,Bool.and_eq_true,decide_eq_true_eq]at hb
   by_cases e:j=i
   ·subst e;omega
   ·exact ih (i+1) (by omega) h j (by omega) h2
theorem VX {l:List Int} {lo hi lo' hi':Int} :∀(k i:Nat),l.length-i=k->zg l lo hi i=true->(∀j,i<=j->j<l.length->lo'<=l.getD j default/\l.getD j default<=hi')->zg l lo' hi' i=true:=by
 intro k
 induction k with
 |zero=>intro i hk h h2;rw[zg,if_neg (by omega)]
 |succ k ih=>
  intro i hk h h2
  rw[zg,if_pos (by omega)]at h⊢
  split at h
  ·cases h
  ·rename_i hb
   have h3:=h2 i (by omega) (by omega)
   rw[if_neg (by simp only[yS,Bool.or_eq_true,Bool.and_eq_true,decide_eq_true_eq]at hb⊢;omega)]
   exact ih (i+1) (by omega) h fun j h1 h4=>h2 j (by omega) h4
theorem zAh {l:List Int} :∀(k i:Nat),l.length-i=k->(WM l i=true↔∀j,i<=j->j<l.length->zEd (l.getD j default)=false):=by
 intro k
 induction k with
 |zero=>intro i hk;rw[WM,if_neg (by omega)];exact ⟨fun _ j h1 h2=>by omega,fun _=>rfl⟩
 |succ k ih=>
  intro i hk
  rw[WM,if_pos (by omega)]
  cases hb:zEd (l.getD i default)with
  |true=>exact ⟨fun h=>by simp at h,fun h=>by rw[h i (by omega) (by omega)]at hb;cases hb⟩
  |false=>
   rw[if_neg (by simp),ih (i+1) (by omega)]
   exact ⟨fun h j h1 h2=>by
    by_cases e:j=i
    ·subst e;exact hb
    ·exact h j (by omega) h2,fun h j h1 h2=>h j (by omega) h2⟩
theorem uM {l:List Int} :∀(k i:Nat),l.length-i=k->(Yw l i=true↔∀j,i<=j->j<l.length->JV (l.getD j default)=false):=by
 intro k
 induction k with
 |zero=>intro i hk;rw[Yw,if_neg (by omega)];exact ⟨fun _ j h1 h2=>by omega,fun _=>rfl⟩
 |succ k ih=>
  intro i hk
  rw[Yw,if_pos (by omega)]
  cases hb:JV (l.getD i default)with
  |true=>exact ⟨fun h=>by simp at h,fun h=>by rw[h i (by omega) (by omega)]at hb;cases hb⟩
  |false=>
   rw[if_neg (by simp),ih (i+1) (by omega)]
   exact ⟨fun h j h1 h2=>by
    by_cases e:j=i
    ·subst e;exact hb
    ·exact h j (by omega) h2,fun h j h1 h2=>h j (by omega) h2⟩
theorem VD {n:Int} (h0:0<=n) (h1:n<=2000):IntKind.i64.wrap n=n:=by
 have e:n % 18446744073709551616=n:=Int.emod_eq_of_lt h0 (by omega)
 show (if (IntKind.i64.signed&&decide (n % 18446744073709551616≥9223372036854775808))=true then n % 18446744073709551616-18446744073709551616 else n % 18446744073709551616)=n
 rw[e,decide_eq_false (by omega),Bool.and_false,if_neg (by simp)]
theorem zMs {n:Int} (h:0<=n):n.tdiv 100=n/100/\n.tmod 100=n % 100:=⟨Int.tdiv_eq_ediv_of_nonneg h,Int.tmod_eq_emod_of_nonneg h⟩
theorem zRv (r:Rlm) (c:Cty):Ym r c=jH r c:=by
 rw[Bool.eq_iff_iff]
 have key:(WM c.feasts 0=true/\zg c.feasts 0 2000 0=true)↔(Yw c.feasts 0=true/\zg c.feasts 101 1231 0=true):=by
  constructor
  ·rintro ⟨h1,h2⟩
   have a1:=(zAh _ 0 rfl).1 h1
   have a2:=Ub _ 0 rfl h2
   have a3:∀j,0<=j->j<c.feasts.length->JV (c.feasts.getD j default)=false/\101<=c.feasts.getD j default/\c.feasts.getD j default<=1231:=fun j hj hl=>by
    have b1:=a1 j hj hl
    have b2:=a2 j hj hl
    obtain ⟨e1,e2⟩:=zMs b2.1
    simp only[zEd,e1,e2,Bool.or_eq_false_iff,Bool.not_eq_false']at b1
    rw[VD (by omega) (by omega),Zy,Zy]at b1
    refine ⟨?_,by omega,by omega⟩
    simp only[JV,e2,Bool.or_eq_false_iff,decide_eq_false_iff_not]
    omega
   exact ⟨(uM _ 0 rfl).2 fun j h h'=>(a3 j h h').1,VX _ 0 rfl h2 fun j h h'=>(a3 j h h').2⟩
  ·rintro ⟨h1,h2⟩
   have a1:=(uM _ 0 rfl).1 h1
   have a2:=Ub _ 0 rfl h2
   refine ⟨(zAh _ 0 rfl).2 fun j h h'=> ?_,VX _ 0 rfl h2 fun j h h'=>by have:=a2 j h h';omega⟩
   have b1:=a1 j h h'
   have b2:=a2 j h h'
   obtain ⟨e1,e2⟩:=zMs (show 0<=c.feasts.getD j default by omega)
   simp only[JV,e2,Bool.or_eq_false_iff,decide_eq_false_iff_not]at b1
   simp only[zEd,e1,e2,Bool.or_eq_false_iff,Bool.not_eq_false']
   rw[VD (by omega) (by omega),Zy,Zy]
   omega
 have h1:wiV c.ord 0 ((r.orders.length:Int)-1)=inV c.ord r.orders.length:=VE
 have h2:wiV c.cur 0 ((r.currencies.length:Int)-1)=inV c.cur r.currencies.length:=VE
 unfold Ym jH WY
 rw[h1,h2]
 generalize inV c.ord r.orders.length=b1
 generalize inV c.cur r.currencies.length=b2
 generalize decide ((60:Int)<c.feasts.length)=b3
 generalize decide ((200:Int)<c.shut.length)=b4
 generalize zg c.rest 0 6 0=q1
 generalize zg c.shut 0 100000 0=q2
 revert key
 generalize WM c.feasts 0=p1
 generalize zg c.feasts 0 2000 0=p2
 generalize Yw c.feasts 0=p3
 generalize zg c.feasts 101 1231 0=p4
 intro key
 cases b1<;>cases b2<;>cases b3<;>cases b4<;>cases p1<;>cases p2<;>cases p3<;>cases p4<;>first|(exfalso;revert key;decide)|(cases q1<;>cases q2<;>decide)
theorem zQx (r:Rlm) (f:Frm):jA r f=wM r f:=by rw[jA,wM,VE,VE]
theorem ZBk {l:List Int} :∀(k i:Nat),l.length-i=k->grF l i=Zw l i:=by
 intro k
 induction k with
 |zero=>intro i hk;rw[grF,Zw,if_neg (by omega),if_neg (by omega)]
 |succ k ih=>intro i hk;rw[grF_p (by omega),zQi (by omega),ih (i+1) (by omega),zMh (m:=9) (n:=10) rfl]
theorem ZAa {l:List Cho} :∀(k i:Nat),l.length-i=k->odF l i=(wD l i&&zg (l.map fun c=>c.ask) 0 21 i):=by
 intro k
 induction k with
 |zero=>intro i hk;rw[odF,wD,zg,if_neg (by omega),if_neg (by omega),if_neg (by rw[List.length_map];omega)];rfl
 |succ k ih=>
  intro i hk
  rw[odF_p (by omega),ZCc (by omega),zGe (l:=l.map fun c=>c.ask) (by rw[List.length_map];omega),ih (i+1) (by omega)]
  have hr:yS (l.map fun c=>c.ask) 0 21 i=(!wiV (l.getD i default).ask 0 21||(decide ((0:Int)<i)&&decide ((l.getD i default).ask<=(l.getD ((i:Int)-1).toNat default).ask))):=by
   rw[yS,Yt (by omega),Yt (by omega),Bool.eq_iff_iff]
   simp only[wiV,Bool.or_eq_true,Bool.and_eq_true,Bool.not_eq_true',Bool.and_eq_false_iff,decide_eq_false_iff_not,decide_eq_true_eq]
   omega
  rw[hr,odB,zMh (m:=4) (n:=5) rfl]
  cases wiV (l.getD i default).ask 0 21<;>cases inV (l.getD i default).by_ 5<;>cases (decide ((0:Int)<i)&&decide ((l.getD i default).ask<=(l.getD ((i:Int)-1).toNat default).ask))<;>simp
theorem zZm {l:List Rul} :∀(k i:Nat),l.length-i=k->ruF l i=zg (l.map fun c=>c.ask) 0 21 i:=by
 intro k
 induction k with
 |zero=>intro i hk;rw[ruF,zg,if_neg (by omega),if_neg (by rw[List.length_map];omega)]
 |succ k ih=>
  intro i hk
  rw[ruF_p (by omega),zGe (l:=l.map fun c=>c.ask) (by rw[List.length_map];omega),ih (i+1) (by omega)]
  have hr:yS (l.map fun c=>c.ask) 0 21 i=ruB l i:=by
   rw[yS,Yt (by omega),Yt (by omega),Bool.eq_iff_iff]
   simp only[ruB,wiV,Bool.or_eq_true,Bool.and_eq_true,Bool.not_eq_true',Bool.and_eq_false_iff,decide_eq_false_iff_not,decide_eq_true_eq]
   omega
  rw[hr]
theorem zJe (o:Od):ya o=qK o:=by
 rw[ya,qK,ZAa _ 0 rfl,zZm _ 0 rfl]
 cases wD o.choices 0<;>cases zg (o.choices.map fun c=>c.ask) 0 21 0<;>simp
theorem zZd (r:Rlm) (u:Us):XQ r u=VK r u:=by
 rw[Bool.eq_iff_iff]
 simp only[XQ,VK,VE,Bool.or_eq_true,Bool.not_eq_true',decide_eq_true_eq]
 rw[zFp]
 grind
theorem zZb {r:Rlm} :∀(k i:Nat),r.usances.length-i=k->Wf r i=usF r i:=by
 intro k
 induction k with
 |zero=>intro i hk;rw[Wf,usF,if_neg (by omega),if_neg (by omega)]
 |succ k ih=>intro i hk;rw[zZc (by omega),usF_p (by omega),ih (i+1) (by omega),zZd]
theorem zZp (r:Rlm) (x:Rt):ur r x=wu r x:=by
 rw[Bool.eq_iff_iff]
 simp only[ur,wu,VE,inV,wiV,Bool.or_eq_true,Bool.not_eq_true',Bool.and_eq_false_iff,decide_eq_false_iff_not,decide_eq_true_eq]
 omega
theorem ZBd (r:Rlm) (x:Ht):UE r x=WI r x:=by
 rw[Bool.eq_iff_iff]
 simp only[UE,WI,VE,inV,wiV,Bool.or_eq_true,Bool.not_eq_true',Bool.and_eq_false_iff,decide_eq_false_iff_not,decide_eq_true_eq]
 omega
theorem zZn {r:Rlm} :∀(k i:Nat),r.rates.length-i=k->Qr r i=rtF r i:=by
 intro k
 induction k with
 |zero=>intro i hk;rw[Qr,rtF,if_neg (by omega),if_neg (by omega)]
 |succ k ih=>intro i hk;rw[zZo (by omega),rtF_p (by omega),ih (i+1) (by omega),zZp]
theorem ZBb {r:Rlm} :∀(k i:Nat),r.halts.length-i=k->WH r i=htF r i:=by
 intro k
 induction k with
 |zero=>intro i hk;rw[WH,htF,if_neg (by omega),if_neg (by omega)]
 |succ k ih=>intro i hk;rw[ZBc (by omega),htF_p (by omega),ih (i+1) (by omega),ZBd]
theorem zJg (a b c:Int):orE (orE a b) c=orE a (orE b c):=by
 unfold orE;split<;>simp_all
theorem zIr (r:Rlm):ZJ r=yw r:=by
 have e1:(fun i=>Ym r (r.cities.getD i default))=fun i=>jH r (r.cities.getD i default):=funext fun i=>zRv _ _
 have e2:(fun i=>jA r (r.firms.getD i default))=fun i=>wM r (r.firms.getD i default):=funext fun i=>zQx _ _
 have e3:(fun i=>ya (r.orders.getD i default))=fun i=>qK (r.orders.getD i default):=funext fun i=>zJe _
 rw[ZJ,KU,zJg,jd,jX,zCc,jV,yw,usE,ww,e1,e2,e3,ZBk _ 0 rfl,zZb _ 0 rfl,zZn _ 0 rfl,ZBb _ 0 rfl]
 congr 2
 split
 ·rfl
 ·split
  ·rfl
  ·rfl
open Go.IntKind (i64)
def VH (day:Int):Bool:=(bif decide (0<=day)then decide (day<=100000)else false)
theorem zIc (day:Int):GC Tryz.prog 87 [iG day] (bG (VH day)):=by
 refine zA Tryz.func87 ?_
 refine gE [0,2] ?_
 refine gE [2] ?_
 refine gT ?_
 rw[VH];rfl
def VJ (r:Rlm) (fr:Int) (dst:Int) (k1:Nat):Int×Int:=if k1<r.usances.length then if (bif decide (((r.usances.getD k1 default).fr)=fr)then decide (((r.usances.getD k1 default).dst)=dst)else false)=true then ((r.usances.getD k1 default).days,0)else VJ r fr dst (k1+1)else (0,4)
termination_by r.usances.length-k1
def zId (r:Rlm) (fr:Int) (dst:Int):Int×Int:=VJ r fr dst 0
theorem zCb (r:Rlm) (fr:Int) (dst:Int) (hr:FitR r):GC Tryz.prog 89 [rlG r,iG fr,iG dst] (.tup [iG ((zId r fr dst).1),iG ((zId r fr dst).2)]):=by
 have h1:=hr.orders
 have h2:=hr.cities
 have h3:=hr.firms
 have h5:=hr.usances
 have h6:=hr.cur
 refine zA Tryz.func89 ?_
 refine gE [1,2,3,6,7] ?_
 refine gE [1,2,3,6,7,8] ?_
 refine zG (α:=Nat) (fun x=>x<=r.usances.length/\VJ r fr dst 0=VJ r fr dst x) (fun x=>[(8,iG x)]) (fun x=>[]) (fun x=>r.usances.length-x) 0 ⟨by (try simp only[]);omega,rfl⟩ ?_ (hp:=by simp[zC]<;>rfl)
 rintro k1 ⟨hi1,he⟩
 refine gE [1,2,3,6,7,8,13] ?_
 refine zB ?_ ?_<;>intro c1<;>try simp only[toN]at c1
 ·refine gE [1,2,3,6,7,8,33] ?_
  refine zE ?_ ?_<;>intro c2<;>try simp only[bb,toN]at c2
  ·refine gE [1,2,3,6,7,8] ?_
   refine gT ?_
   rw[zId,he,VJ,if_pos (by omega),if_pos (by (try simp only[bb,toN]);exact c2)];rfl
  ·refine gE [1,2,3,6,7,8] ?_
   refine zD (k1+1) ?_ (hp:=by simp[zC]<;>rfl)
   refine ⟨by (try simp only[]);omega,he.trans ?_⟩
   rw[VJ,if_pos (by omega),iN (by (try simp only[bb,toN]);exact c2)]
   try rfl
 ·refine gE [6,7] ?_
  refine gT ?_
  rw[zId,he,VJ,if_neg (by omega)];rfl
def Kc (n:Int) (len:Int):Bool:=(bif decide (0<=n)then decide (n<len)else false)
theorem Jy (n:Int) (len:Int):GC Tryz.prog 85 [iG n,iG len] (bG (Kc n len)):=by
 refine zA Tryz.func85 ?_
 refine gE [0,1,4] ?_
 refine gE [4] ?_
 refine gT ?_
 rw[Kc];rfl
def Vm (n:Int) (len:Int):Bool:=(bif decide (n=(-1))then true else (Kc n len))
theorem Ui (n:Int) (len:Int):GC Tryz.prog 86 [iG n,iG len] (bG (Vm n len)):=by
 refine zA Tryz.func86 ?_
 refine gE [0,1,4] ?_
 refine gR [.call (Jy n len)] [4] ?_
 refine gT ?_
 rw[Vm];rfl
def VM (b:Bil):Bool:=if (bif decide (b.ten.kind=0)then true else decide (b.ten.kind=4))=true then (bif decide (b.ten.n=0)then decide (b.ten.unit=0)else false)else if (bif decide (b.ten.kind=1)then true else decide (b.ten.kind=2))=true then (bif (bif decide (1<=b.ten.n)then decide (b.ten.n<=400)else false)then (bif decide (b.ten.unit=0)then true else decide (b.ten.unit=1))else false)else (bif (bif (bif decide (b.ten.kind=3)then decide (b.day<=b.ten.n)else false)then decide (b.ten.n<=100000)else false)then decide (b.ten.unit=0)else false)
theorem zMr (b:Bil):GC Tryz.prog 88 [zBj b] (bG (VM b)):=by
 refine zA Tryz.func88 ?_
 refine gE [1,2] ?_
 refine gE [1,2,3] ?_
 refine gE [1,2,3,13] ?_
 refine zE ?_ ?_<;>intro c1<;>try simp only[bb,toN]at c1
 ·refine gE [1,2,3] ?_
  refine gT ?_
  rw[VM,if_pos (by (try simp only[bb,toN]);exact c1)];rfl
 ·refine gE [1,2,3,29] ?_
  refine zE ?_ ?_<;>intro c2<;>try simp only[bb,toN]at c2
  ·refine gE [1,2,3] ?_
   refine gT ?_
   rw[VM,iN (by (try simp only[bb,toN]);exact c1),if_pos (by (try simp only[bb,toN]);exact c2)];rfl
  ·refine gE [2] ?_
   refine gT ?_
   rw[VM,iN (by (try simp only[bb,toN]);exact c1),iN (by (try simp only[bb,toN]);exact c2)];rfl
def QE (r:Rlm) (b:Bil):Int:=if (ZJ r)=0 then if (bif (bif (bif (bif (bif (bif (!(Kc b.drawer (r.firms.length:Int)))then true else (!(Kc b.drawee (r.firms.length:Int))))then true else (!(Vm b.payee (r.firms.length:Int))))then true else (!(Vm b.need (r.firms.length:Int))))then true else (!(Kc b.cur (r.currencies.length:Int))))then true else (!(Kc b.city (r.cities.length:Int))))then true else (!(Kc b.pay (r.cities.length:Int))))=true then 1 else if (bif (bif (bif (bif decide (b.sum<1)then true else decide (1099511627776<b.sum))then true else (!(VH b.day)))then true else decide (b.rate<0))then true else decide (1000<b.rate))=true then 3 else if (bif decide (b.parts<1)then true else decide (4<b.parts))=true then 15 else if (bif (bif (bif decide (b.flags<0)then true else decide (7<b.flags))then true else (bif decide (b.payee=(-1))then (!decide ((yO .i64 b.flags 4)=0))else false))then true else (!(VM b)))=true then 2 else if b.ten.kind=4 then (zId r b.city b.pay).2 else 0 else (ZJ r)
theorem zRz (r:Rlm) (b:Bil) (hr:FitR r):GC Tryz.prog 57 [rlG r,zBj b] (iG (QE r b)):=by
 have h1:=hr.orders
 have h2:=hr.cities
 have h3:=hr.firms
 have h5:=hr.usances
 have h6:=hr.cur
 refine zA Tryz.func57 ?_
 refine gE [2,3,4] ?_
 refine gR [.call (XG r hr)] [2,3,4,5] ?_
 refine gE [2,3,4,5,13] ?_
 refine zT ?_ ?_<;>intro c1<;>try simp only[toN]at c1
 ·refine gE [2,3,4] ?_
  refine gT ?_
  rw[QE,if_neg c1];rfl
 ·refine gE [2,3,4,6] ?_
  refine gE [2,3,4,6,7] ?_
  refine gR [.call (Jy b.drawer (r.firms.length:Int)),.call (Jy b.drawee (r.firms.length:Int)),.call (Ui b.payee (r.firms.length:Int)),.call (Ui b.need (r.firms.length:Int)),.call (Jy b.cur (r.currencies.length:Int)),.call (Jy b.city (r.cities.length:Int)),.call (Jy b.pay (r.cities.length:Int))] [2,3,4,69] ?_
  refine zE ?_ ?_<;>intro c2<;>try simp only[bb,toN]at c2
  ·refine gE [2,3,4] ?_
   refine gT ?_
   rw[QE,if_pos c1,if_pos (by (try simp only[bb,toN]);exact c2)];rfl
  ·refine gR [.call (zIc b.day)] [2,3,4,93] ?_
   refine zE ?_ ?_<;>intro c3<;>try simp only[bb,toN]at c3
   ·refine gE [2,3,4] ?_
    refine gT ?_
    rw[QE,if_pos c1,iN (by (try simp only[bb,toN]);exact c2),if_pos (by (try simp only[bb,toN]);exact c3)];rfl
   ·refine gE [2,3,4,101] ?_
    refine zE ?_ ?_<;>intro c4<;>try simp only[bb,toN]at c4
    ·refine gE [2,3,4] ?_
     refine gT ?_
     rw[QE,if_pos c1,iN (by (try simp only[bb,toN]);exact c2),iN (by (try simp only[bb,toN]);exact c3),if_pos (by (try simp only[bb,toN]);exact c4)];rfl
    ·refine gR [.call (zMr b)] [2,3,4,125] ?_
     refine zE ?_ ?_<;>intro c5<;>try simp only[bb,toN]at c5
     ·refine gE [2,3,4] ?_
      refine gT ?_
      rw[QE,if_pos c1,iN (by (try simp only[bb,toN]);exact c2),iN (by (try simp only[bb,toN]);exact c3),iN (by (try simp only[bb,toN]);exact c4),if_pos (by (try simp only[bb,toN]);exact c5)];rfl
     ·refine gE [2,3,4,129] ?_
      refine zT ?_ ?_<;>intro c6<;>try simp only[toN]at c6
      ·refine gE [2,3,4] ?_
       refine gT ?_
       rw[QE,if_pos c1,iN (by (try simp only[bb,toN]);exact c2),iN (by (try simp only[bb,toN]);exact c3),iN (by (try simp only[bb,toN]);exact c4),iN (by (try simp only[bb,toN]);exact c5),if_neg c6];rfl
      ·refine gR [.call (zCb r b.city b.pay hr)] [4,9] ?_
       refine gE [4] ?_
       refine gT ?_
       rw[QE,if_pos c1,iN (by (try simp only[bb,toN]);exact c2),iN (by (try simp only[bb,toN]);exact c3),iN (by (try simp only[bb,toN]);exact c4),iN (by (try simp only[bb,toN]);exact c5),if_pos c6];rfl
def zOk (f:Fil) (i:Int) (part:Int):Bool:=(bif decide (i=0)then true else decide (((f.signs.getD i.toNat default).part)=part))
theorem zGm (f:Fil) (i:Int) (part:Int) (hi:0<=i/\i<f.signs.length):GC Tryz.prog 132 [fiG f,iG i,iG part] (bG (zOk f i part)):=by
 refine zA Tryz.func132 ?_
 refine gE [1,2,3,6] ?_
 refine gE [6] ?_
 refine gT ?_
 rw[zOk];rfl
def qf (f:Fil) (i:Int):Bool:=(bif (wiV ((f.signs.getD i.toNat default).for_) 0 (i-1))then (zOk f ((f.signs.getD i.toNat default).for_) ((f.signs.getD i.toNat default).part))else false)
theorem ud (f:Fil) (i:Int) (hF:FitFi f) (hi:0<=i/\i<f.signs.length):GC Tryz.prog 131 [fiG f,iG i] (bG (qf f i)):=by
 have g1:=hF.signs
 have g2:=hF.alters
 have g3:=hF.acts
 have g4:=hF.facts
 refine zA Tryz.func131 ?_
 refine gS [] [1,2,4] ?_
 refine gS [] [1,2,4,5] ?_
 refine gS [.call (zu ((f.signs.getD i.toNat default).for_) 0 (i-1)),.callq (Q:=0<=((f.signs.getD i.toNat default).for_)/\((f.signs.getD i.toNat default).for_)<(f.signs.length:Int)) (fun hq=>zGm f ((f.signs.getD i.toNat default).for_) ((f.signs.getD i.toNat default).part) hq)] [4] ?_
 refine gT ?_
 rw[qf];rfl
theorem vJ {f:Fil} {i:Int} (hi:0<=i/\i<f.signs.length) (h:qf f i=true):0<=(f.signs.getD i.toNat default).for_/\(f.signs.getD i.toNat default).for_<i:=by
 unfold qf at h
 simp only[bb,Zy]at h
 omega
def Yb (r:Rlm) (f:Fil) (i:Int):Bool:=if ((f.signs.getD i.toNat default).kind)=0 then (bif (bif (bif (bif (bif (bif (bif decide (i=0)then decide (((f.signs.getD i.toNat default).who)=f.bill.drawer)else false)then decide (((f.signs.getD i.toNat default).for_)=(-1))else false)then decide (((f.signs.getD i.toNat default).to_)=(-1))else false)then decide (((f.signs.getD i.toNat default).sum)=0)else false)then (bif decide (((f.signs.getD i.toNat default).flags)=0)then true else decide (((f.signs.getD i.toNat default).flags)=1))else false)then decide (((f.signs.getD i.toNat default).part)=0)else false)then decide (((f.signs.getD i.toNat default).city)=f.bill.city)else false)else if ((f.signs.getD i.toNat default).kind)=1 then (bif (bif (bif (bif (bif decide (0<i)then decide (((f.signs.getD i.toNat default).who)=f.bill.drawee)else false)then decide (((f.signs.getD i.toNat default).for_)=(-1))else false)then decide (((f.signs.getD i.toNat default).to_)=(-1))else false)then (wiV ((f.signs.getD i.toNat default).sum) 1 1099511627776)else false)then decide (((f.signs.getD i.toNat default).flags)=0)else false)else if ((f.signs.getD i.toNat default).kind)=2 then (bif (bif (bif (bif (bif decide (0<i)then decide (((f.signs.getD i.toNat default).for_)=(-1))else false)then (wiV ((f.signs.getD i.toNat default).to_) (-1) (i64.wrap ((r.firms.length:Int)-1)))else false)then decide (((f.signs.getD i.toNat default).sum)=0)else false)then (wiV ((f.signs.getD i.toNat default).flags) 0 7)else false)then (!(bif decide (((i64.wrap (((f.signs.getD i.toNat default).flags).tdiv 2)).tmod 2)=1)then decide (((i64.wrap (((f.signs.getD i.toNat default).flags).tdiv 4)).tmod 2)=1)else false))else false)else if ((f.signs.getD i.toNat default).kind)=3 then if (bif (bif (bif (bif decide (i=0)then true else (!decide (((f.signs.getD i.toNat default).to_)=(-1))))then true else (!decide (((f.signs.getD i.toNat default).sum)=0)))then true else (!decide (((f.signs.getD i.toNat default).flags)=0)))then true else (!(qf f i)))=true then false else (!decide (((f.signs.getD (((f.signs.getD i.toNat default).for_).toNat) default).kind)=3))else if ((f.signs.getD i.toNat default).kind)=4 then if (bif (bif (bif (bif (bif decide (i=0)then true else (!decide (((f.signs.getD i.toNat default).to_)=(-1))))then true else (!(wiV ((f.signs.getD i.toNat default).sum) 1 1099511627776)))then true else (!decide (((f.signs.getD i.toNat default).flags)=0)))then true else decide (((f.signs.getD i.toNat default).who)=f.bill.drawee))then true else (!(qf f i)))=true then false else (bif decide (((f.signs.getD (((f.signs.getD i.toNat default).for_).toNat) default).kind)=0)then true else decide (((f.signs.getD (((f.signs.getD i.toNat default).for_).toNat) default).kind)=2))else false
theorem zLg (r:Rlm) (f:Fil) (i:Int) (hr:FitR r) (hF:FitFi f) (hi:0<=i/\i<f.signs.length):GC Tryz.prog 90 [rlG r,fiG f,iG i] (bG (Yb r f i)):=by
 have h1:=hr.orders
 have h2:=hr.cities
 have h3:=hr.firms
 have h5:=hr.usances
 have h6:=hr.cur
 have g1:=hF.signs
 have g2:=hF.alters
 have g3:=hF.acts
 have g4:=hF.facts
 refine zA Tryz.func90 ?_
 refine gS [] [2,3,4,6] ?_
 refine gS [] [2,3,4,6,7] ?_
 refine gS [.call (zu ((f.signs.getD i.toNat default).sum) 1 1099511627776)] [2,3,4,6,7,8] ?_
 refine gS [] [2,3,4,6,7,8,20] ?_
 refine gS [] [2,3,4,6,7,8,20,21] ?_
 refine zB ?_ ?_<;>intro c1<;>try simp only[toN]at c1
 ·refine gS [] [6] ?_
  refine gT ?_
  rw[Yb,if_pos c1];rfl
 ·refine gS [] [2,3,4,6,7,8,20,71] ?_
  refine zB ?_ ?_<;>intro c2<;>try simp only[toN]at c2
  ·refine gS [] [6] ?_
   refine gT ?_
   rw[Yb,if_neg c1,if_pos c2];rfl
  ·refine gS [] [2,3,4,6,7,8,20,101] ?_
   refine zB ?_ ?_<;>intro c3<;>try simp only[toN]at c3
   ·refine zF env true [] [2,3,6,7,9] ?_ (hp:=(by simp only[zC,bb,toN,Zy,loI,hiI];repeat' first|exact trivial|exact zI.refl _|exact zH.refl _|exact rfl|omega|apply And.intro|intro _))
    refine zF env true [] [2,3,6,7,9,10] ?_ (hp:=(by simp only[zC,bb,toN,Zy,loI,hiI];repeat' first|exact trivial|exact zI.refl _|exact zH.refl _|exact rfl|omega|apply And.intro|intro _))
    refine zF env true [.call (zu ((f.signs.getD i.toNat default).to_) (-1) (i64.wrap ((r.firms.length:Int)-1))),.call (zu ((f.signs.getD i.toNat default).flags) 0 7)] [6] ?_ (hp:=(by simp only[zC,bb,toN,Zy,loI,hiI];repeat' first|exact trivial|exact zI.refl _|exact zH.refl _|exact rfl|omega|apply And.intro|intro _))
    refine gT ?_
    rw[Yb,if_neg c1,if_neg c2,if_pos c3];rfl
   ·refine gS [] [2,4,6,7,8,20,146] ?_
    refine zB ?_ ?_<;>intro c4<;>try simp only[toN]at c4
    ·refine gS [.call (ud f i hF (by assumption))] [4,6,7,170] ?_
     refine zE ?_ ?_<;>intro c5<;>try simp only[bb,toN]at c5
     ·refine gS [] [4,6,7] ?_
      refine gT ?_
      rw[Yb,if_neg c1,if_neg c2,if_neg c3,if_pos c4,if_pos (by (try simp only[bb,toN]);exact c5)];rfl
     ·have hb:=vJ hi c5.2
      refine gS [] [6] ?_
      refine gT ?_
      rw[Yb,if_neg c1,if_neg c2,if_neg c3,if_pos c4,iN (by (try simp only[bb,toN]);exact c5)];rfl
    ·refine gS [] [2,4,6,7,8,179] ?_
     refine zB ?_ ?_<;>intro c6<;>try simp only[toN]at c6
     ·refine gS [.call (ud f i hF (by assumption))] [4,6,7,210] ?_
      refine zE ?_ ?_<;>intro c7<;>try simp only[bb,toN]at c7
      ·refine gS [] [4,6,7] ?_
       refine gT ?_
       rw[Yb,if_neg c1,if_neg c2,if_neg c3,if_neg c4,if_pos c6,if_pos (by (try simp only[bb,toN]);exact c7)];rfl
      ·have hb:=vJ hi c7.2
       refine gS [] [6] ?_
       refine gT ?_
       rw[Yb,if_neg c1,if_neg c2,if_neg c3,if_neg c4,if_pos c6,iN (by (try simp only[bb,toN]);exact c7)];rfl
     ·refine gS [] [6] ?_
      refine gT ?_
      rw[Yb,if_neg c1,if_neg c2,if_neg c3,if_neg c4,if_neg c6];rfl
def qW (r:Rlm) (f:Fil) (i:Int) (j6_1:Int) (k1:Nat):Int:=if (bif decide ((k1:Int)<i)then decide (((f.signs.getD i.toNat default).kind)=1)else false)=true then if (bif decide (((f.signs.getD k1 default).kind)=1)then decide (((f.signs.getD k1 default).part)=((f.signs.getD i.toNat default).part))else false)=true then 5 else qW r f i j6_1 (k1+1)else 0
termination_by i.toNat-k1
decreasing_by all_goals first|omega|(simp only[bb]at*;omega)
def yR (r:Rlm) (f:Fil) (i:Int) (j6_1:Int):Int:=if (!(Yb r f i))=true then 14 else qW r f i j6_1 0
def YT (r:Rlm) (f:Fil) (i:Int):Int:=if (!(wiV ((f.signs.getD i.toNat default).part) 0 (i64.wrap (f.bill.parts-1))))=true then 15 else if (bif (!(wiV ((f.signs.getD i.toNat default).who) 0 (i64.wrap ((r.firms.length:Int)-1))))then true else (!(wiV ((f.signs.getD i.toNat default).city) 0 (i64.wrap ((r.cities.length:Int)-1)))))=true then 1 else if (bif (bif decide (i=0)then (!decide (((f.signs.getD i.toNat default).day)=f.bill.day))else false)then true else decide (100000<((f.signs.getD i.toNat default).day)))=true then 13 else if 0<i then if ((f.signs.getD i.toNat default).day)<((f.signs.getD ((i-1).toNat) default).day)then 13 else yR r f i 0 else yR r f i 0
theorem zIh (r:Rlm) (f:Fil) (i:Int) (hr:FitR r) (hF:FitFi f) (hi:0<=i/\i<f.signs.length):GC Tryz.prog 58 [rlG r,fiG f,iG i] (iG (YT r f i)):=by
 have h1:=hr.orders
 have h2:=hr.cities
 have h3:=hr.firms
 have h5:=hr.usances
 have h6:=hr.cur
 have g1:=hF.signs
 have g2:=hF.alters
 have g3:=hF.acts
 have g4:=hF.facts
 refine zA Tryz.func58 ?_
 refine gS [] [2,3,4,6] ?_
 refine gS [] [2,3,4,6,7] ?_
 refine zF env true [.call (zu ((f.signs.getD i.toNat default).part) 0 (i64.wrap (f.bill.parts-1)))] [2,3,4,6,7,21] ?_ (hp:=(by simp only[zC,bb,toN,Zy,loI,hiI];repeat' first|exact trivial|exact zI.refl _|exact zH.refl _|exact rfl|omega|apply And.intro|intro _))
 refine zE ?_ ?_<;>intro c1<;>try simp only[bb,toN]at c1
 ·refine gS [] [2,3,4,6,7] ?_
  refine gT ?_
  rw[YT,if_pos (by (try simp only[bb,toN]);exact c1)];rfl
 ·refine zF env true [.call (zu ((f.signs.getD i.toNat default).who) 0 (i64.wrap ((r.firms.length:Int)-1))),.call (zu ((f.signs.getD i.toNat default).city) 0 (i64.wrap ((r.cities.length:Int)-1)))] [2,3,4,6,7,39] ?_ (hp:=(by simp only[zC,bb,toN,Zy,loI,hiI];repeat' first|exact trivial|exact zI.refl _|exact zH.refl _|exact rfl|omega|apply And.intro|intro _))
  refine zE ?_ ?_<;>intro c2<;>try simp only[bb,toN]at c2
  ·refine gS [] [2,3,4,6,7] ?_
   refine gT ?_
   rw[YT,iN (by (try simp only[bb,toN]);exact c1),if_pos (by (try simp only[bb,toN]);exact c2)];rfl
  ·refine gS [] [2,3,4,6,7,54] ?_
   refine zE ?_ ?_<;>intro c3<;>try simp only[bb,toN]at c3
   ·refine gS [] [2,3,4,6,7] ?_
    refine gT ?_
    rw[YT,iN (by (try simp only[bb,toN]);exact c1),iN (by (try simp only[bb,toN]);exact c2),if_pos (by (try simp only[bb,toN]);exact c3)];rfl
   ·refine gS [] [2,3,4,6,7,56] ?_
    refine yV (α:=Int) (fun x=>YT r f i=yR r f i x) (fun x=>⟨[(2,iG i),(3,.ptr 0 0 0 0),(4,.ptr 1 0 0 0),(6,iG x),(7,.ptr 2 0 0 0)],[(0,some (.box [.d (.row default ze r.currencies),.d (.row default ctC r.cities),.d (.row default inC r.groups),.d (.row default fmC r.firms),.d (.row default odC r.orders),.d (.row default usC r.usances),.d (.row default rtC r.rates),.d (.row default htC r.halts)])),(1,some (.box [iG f.bill.drawer,iG f.bill.drawee,iG f.bill.payee,iG f.bill.sum,iG f.bill.cur,iG f.bill.ten.kind,iG f.bill.ten.n,iG f.bill.ten.unit,iG f.bill.day,iG f.bill.city,iG f.bill.pay,iG f.bill.need,iG f.bill.rate,iG f.bill.flags,iG f.bill.parts,.d (.row default sgC f.signs),.d (.row default alC f.alters),.d (.row default acC f.acts),.d (.row default fcC f.facts)])),(2,some (.box [iG ((f.signs.getD i.toNat default).kind),iG ((f.signs.getD i.toNat default).part),iG ((f.signs.getD i.toNat default).who),iG ((f.signs.getD i.toNat default).for_),iG ((f.signs.getD i.toNat default).to_),iG ((f.signs.getD i.toNat default).sum),iG ((f.signs.getD i.toNat default).day),iG ((f.signs.getD i.toNat default).city),iG ((f.signs.getD i.toNat default).flags)]))],3⟩) ?_ ?_
    ·rintro j6_1 hjc1
     refine gS [.call (zLg r f i hr hF (by assumption))] [2,4,6,7,71] ?_
     refine zE ?_ ?_<;>intro c4<;>try simp only[bb,toN]at c4
     ·refine gS [] [2,4,6,7] ?_
      refine gT ?_
      rw[hjc1,yR,if_pos (by (try simp only[bb,toN]);exact c4)];rfl
     ·refine gS [] [2,4,6,7,8] ?_
      refine zG (α:=Nat) (fun x=>x<=i.toNat/\qW r f i j6_1 0=qW r f i j6_1 x) (fun x=>[(8,iG x)]) (fun x=>[]) (fun x=>i.toNat-x) 0 ⟨by (try simp only[]);omega,rfl⟩ ?_ (hp:=by simp[zC]<;>rfl)
      rintro k1 ⟨hi1,he⟩
      refine gS [] [2,4,6,7,8,79] ?_
      refine zE ?_ ?_<;>intro c5<;>try simp only[bb,toN]at c5
      ·refine gS [] [2,4,6,7,8,99] ?_
       refine zE ?_ ?_<;>intro c6<;>try simp only[bb,toN]at c6
       ·refine gS [] [2,4,6,7,8] ?_
        refine gT ?_
        rw[hjc1,yR,iN (by (try simp only[bb,toN]);exact c4),he,qW,if_pos (by (try simp only[bb,toN]);exact c5),if_pos (by (try simp only[bb,toN]);exact c6)];rfl
       ·refine gS [] [2,4,6,7,8] ?_
        refine zD (k1+1) ?_ (hp:=by simp[zC]<;>rfl)
        refine ⟨by (try simp only[]);omega,he.trans ?_⟩
        rw[qW,if_pos (by (try simp only[bb,toN]);exact c5),iN (by (try simp only[bb,toN]);exact c6)]
        try rfl
      ·refine gS [] [6] ?_
       refine gT ?_
       rw[hjc1,yR,iN (by (try simp only[bb,toN]);exact c4),he,qW,iN (by (try simp only[bb,toN]);exact c5)];rfl
    refine zB ?_ ?_<;>intro c7<;>try simp only[toN]at c7
    ·refine gS [] [2,3,4,6,7,66] ?_
     refine zB ?_ ?_<;>intro c8<;>try simp only[toN]at c8
     ·refine gS [] [2,3,4,6,7] ?_
      refine gT ?_
      rw[YT,iN (by (try simp only[bb,toN]);exact c1),iN (by (try simp only[bb,toN]);exact c2),iN (by (try simp only[bb,toN]);exact c3),if_pos c7,if_pos c8];rfl
     ·refine za (0) ?_ (hp:=by simp[zC]<;>rfl)
      exact by rw[YT,iN (by (try simp only[bb,toN]);exact c1),iN (by (try simp only[bb,toN]);exact c2),iN (by (try simp only[bb,toN]);exact c3),if_pos c7,if_neg c8]
    ·refine za (0) ?_ (hp:=by simp[zC]<;>rfl)
     exact by rw[YT,iN (by (try simp only[bb,toN]);exact c1),iN (by (try simp only[bb,toN]);exact c2),iN (by (try simp only[bb,toN]);exact c3),if_neg c7]
def ZX (r:Rlm) (f:Fil) (a:Act) (j9_1:Bool) (j10_2:Bool) (j56_3:Bool) (j76_4:Bool):Bool:=if j76_4=true then (bif (bif (bif (wiV a.to_ 0 ((r.firms.length:Int)-1))then decide (a.at_=(-1))else false)then (wiV a.sum 0 1099511627776)else false)then decide (a.form=0)else false)else if a.kind=4 then (bif (bif (bif (wiV a.to_ 0 ((r.firms.length:Int)-1))then decide (a.at_=(-1))else false)then (wiV a.sum 0 1099511627776)else false)then (bif decide (a.form=0)then true else decide (a.form=1))else false)else if a.kind=6 then (bif (bif (bif (bif (wiV a.to_ 0 ((r.firms.length:Int)-1))then j10_2 else false)then (wiV a.sum 0 1099511627776)else false)then decide (0<a.sum)else false)then decide (a.form=0)else false)else if a.kind=9 then (bif (bif (bif decide (a.to_=(-1))then j10_2 else false)then decide (a.sum=0)else false)then decide (a.form=0)else false)else if a.kind=7 then (bif (bif (bif decide (a.to_=(-1))then j9_1 else false)then decide (a.sum=0)else false)then decide (a.form=0)else false)else if a.kind=8 then (bif (bif (bif decide (a.to_=(-1))then j9_1 else false)then decide (a.sum=0)else false)then decide (a.form=0)else false)else false
def yP (r:Rlm) (f:Fil) (a:Act) (j9_1:Bool) (j10_2:Bool) (j56_3:Bool):Bool:=if j56_3=true then (bif (bif (bif (wiV a.to_ 0 ((r.firms.length:Int)-1))then decide (a.at_=(-1))else false)then decide (a.sum=0)else false)then decide (a.form=0)else false)else if a.kind=3 then ZX r f a j9_1 j10_2 j56_3 (decide (a.kind=3))else ZX r f a j9_1 j10_2 j56_3 (decide (a.kind=5))
def YE (r:Rlm) (f:Fil) (a:Act) (j9_1:Bool) (j10_2:Bool):Bool:=if a.kind=0 then yP r f a j9_1 j10_2 (decide (a.kind=0))else if a.kind=1 then yP r f a j9_1 j10_2 (decide (a.kind=1))else yP r f a j9_1 j10_2 (decide (a.kind=2))
def Yy (r:Rlm) (f:Fil) (a:Act) (j9_1:Bool):Bool:=if j9_1=true then YE r f a j9_1 (decide (((f.signs.getD a.at_.toNat default).who)=a.who))else YE r f a j9_1 false
def Yi (r:Rlm) (f:Fil) (a:Act):Bool:=if (!(wiV a.who 0 ((r.firms.length:Int)-1)))=true then false else if (wiV a.at_ 0 ((f.signs.length:Int)-1))=true then Yy r f a (zOk f a.at_ a.part)else Yy r f a (wiV a.at_ 0 ((f.signs.length:Int)-1))
theorem zFk (r:Rlm) (f:Fil) (a:Act) (hr:FitR r) (hF:FitFi f):GC Tryz.prog 91 [rlG r,fiG f,acG a] (bG (Yi r f a)):=by
 have h1:=hr.orders
 have h2:=hr.cities
 have h3:=hr.firms
 have h5:=hr.usances
 have h6:=hr.cur
 have g1:=hF.signs
 have g2:=hF.alters
 have g3:=hF.acts
 have g4:=hF.facts
 refine zA Tryz.func91 ?_
 refine gS [] [3,4,5,6] ?_
 refine gS [.call (zu a.who 0 ((r.firms.length:Int)-1))] [3,4,5,6,18] ?_
 refine zE ?_ ?_<;>intro c1<;>try simp only[bb,toN]at c1
 ·refine gS [] [3,4,5,6] ?_
  refine gT ?_
  rw[Yi,if_pos (by (try simp only[bb,toN]);exact c1)];rfl
 ·refine gS [.call (zu a.to_ 0 ((r.firms.length:Int)-1))] [4,5,6,7] ?_
  refine gS [.call (zu a.sum 0 1099511627776)] [4,5,6,7,8] ?_
  refine gS [.call (zu a.at_ 0 ((f.signs.length:Int)-1))] [4,5,6,7,8,9] ?_
  refine gS [] [4,5,6,7,8,9,36] ?_
  refine yV (α:=Bool) (fun x=>Yi r f a=Yy r f a x/\(fun b=>b=true->0<=a.at_/\a.at_<f.signs.length) x) (fun x=>⟨[(4,.ptr 1 0 0 0),(5,.ptr 2 0 0 0),(6,bG false),(7,bG (wiV a.to_ 0 ((r.firms.length:Int)-1))),(8,bG (wiV a.sum 0 1099511627776)),(9,bG x)],[(0,some (.box [.d (.row default ze r.currencies),.d (.row default ctC r.cities),.d (.row default inC r.groups),.d (.row default fmC r.firms),.d (.row default odC r.orders),.d (.row default usC r.usances),.d (.row default rtC r.rates),.d (.row default htC r.halts)])),(1,some (.box [iG f.bill.drawer,iG f.bill.drawee,iG f.bill.payee,iG f.bill.sum,iG f.bill.cur,iG f.bill.ten.kind,iG f.bill.ten.n,iG f.bill.ten.unit,iG f.bill.day,iG f.bill.city,iG f.bill.pay,iG f.bill.need,iG f.bill.rate,iG f.bill.flags,iG f.bill.parts,.d (.row default sgC f.signs),.d (.row default alC f.alters),.d (.row default acC f.acts),.d (.row default fcC f.facts)])),(2,some (.box [iG a.kind,iG a.who,iG a.to_,iG a.part,iG a.at_,iG a.sum,iG a.day,iG a.city,iG a.form]))],3⟩) ?_ ?_
  ·rintro j9_1 ⟨hjc1,hxc1⟩
   refine gS [] [4,5,6,7,8,9,10] ?_
   refine gS [] [4,5,6,7,8,9,10,43] ?_
   refine yV (α:=Bool) (fun x=>Yi r f a=YE r f a j9_1 x) (fun x=>⟨[(5,.ptr 2 0 0 0),(6,bG false),(7,bG (wiV a.to_ 0 ((r.firms.length:Int)-1))),(8,bG (wiV a.sum 0 1099511627776)),(9,bG j9_1),(10,bG x)],[(0,some (.box [.d (.row default ze r.currencies),.d (.row default ctC r.cities),.d (.row default inC r.groups),.d (.row default fmC r.firms),.d (.row default odC r.orders),.d (.row default usC r.usances),.d (.row default rtC r.rates),.d (.row default htC r.halts)])),(1,some (.box [iG f.bill.drawer,iG f.bill.drawee,iG f.bill.payee,iG f.bill.sum,iG f.bill.cur,iG f.bill.ten.kind,iG f.bill.ten.n,iG f.bill.ten.unit,iG f.bill.day,iG f.bill.city,iG f.bill.pay,iG f.bill.need,iG f.bill.rate,iG f.bill.flags,iG f.bill.parts,.d (.row default sgC f.signs),.d (.row default alC f.alters),.d (.row default acC f.acts),.d (.row default fcC f.facts)])),(2,some (.box [iG a.kind,iG a.who,iG a.to_,iG a.part,iG a.at_,iG a.sum,iG a.day,iG a.city,iG a.form]))],3⟩) ?_ ?_
   ·rintro j10_2 hjc2
    refine gS [] [5,6,7,8,9,10,55] ?_
    refine gS [] [5,6,7,8,9,10,55,56] ?_
    refine yV (α:=Bool) (fun x=>Yi r f a=yP r f a j9_1 j10_2 x) (fun x=>⟨[(5,.ptr 2 0 0 0),(6,bG false),(7,bG (wiV a.to_ 0 ((r.firms.length:Int)-1))),(8,bG (wiV a.sum 0 1099511627776)),(9,bG j9_1),(10,bG j10_2),(55,iG a.kind),(56,bG x)],[(0,some (.box [.d (.row default ze r.currencies),.d (.row default ctC r.cities),.d (.row default inC r.groups),.d (.row default fmC r.firms),.d (.row default odC r.orders),.d (.row default usC r.usances),.d (.row default rtC r.rates),.d (.row default htC r.halts)])),(1,some (.box [iG f.bill.drawer,iG f.bill.drawee,iG f.bill.payee,iG f.bill.sum,iG f.bill.cur,iG f.bill.ten.kind,iG f.bill.ten.n,iG f.bill.ten.unit,iG f.bill.day,iG f.bill.city,iG f.bill.pay,iG f.bill.need,iG f.bill.rate,iG f.bill.flags,iG f.bill.parts,.d (.row default sgC f.signs),.d (.row default alC f.alters),.d (.row default acC f.acts),.d (.row default fcC f.facts)])),(2,some (.box [iG a.kind,iG a.who,iG a.to_,iG a.part,iG a.at_,iG a.sum,iG a.day,iG a.city,iG a.form]))],3⟩) ?_ ?_
    ·rintro j56_3 hjc3
     refine zE ?_ ?_<;>intro c2<;>try simp only[bb,toN]at c2
     ·refine gS [] [6] ?_
      refine gT ?_
      rw[hjc3,yP,if_pos (by (try simp only[bb,toN]);exact c2)];rfl
     ·refine gS [] [5,6,7,8,9,10,55,76] ?_
      refine yV (α:=Bool) (fun x=>Yi r f a=ZX r f a j9_1 j10_2 j56_3 x) (fun x=>⟨[(5,.ptr 2 0 0 0),(6,bG false),(7,bG (wiV a.to_ 0 ((r.firms.length:Int)-1))),(8,bG (wiV a.sum 0 1099511627776)),(9,bG j9_1),(10,bG j10_2),(55,iG a.kind),(76,bG x)],[(0,some (.box [.d (.row default ze r.currencies),.d (.row default ctC r.cities),.d (.row default inC r.groups),.d (.row default fmC r.firms),.d (.row default odC r.orders),.d (.row default usC r.usances),.d (.row default rtC r.rates),.d (.row default htC r.halts)])),(1,some (.box [iG f.bill.drawer,iG f.bill.drawee,iG f.bill.payee,iG f.bill.sum,iG f.bill.cur,iG f.bill.ten.kind,iG f.bill.ten.n,iG f.bill.ten.unit,iG f.bill.day,iG f.bill.city,iG f.bill.pay,iG f.bill.need,iG f.bill.rate,iG f.bill.flags,iG f.bill.parts,.d (.row default sgC f.signs),.d (.row default alC f.alters),.d (.row default acC f.acts),.d (.row default fcC f.facts)])),(2,some (.box [iG a.kind,iG a.who,iG a.to_,iG a.part,iG a.at_,iG a.sum,iG a.day,iG a.city,iG a.form]))],3⟩) ?_ ?_
      ·rintro j76_4 hjc4
       refine zE ?_ ?_<;>intro c3<;>try simp only[bb,toN]at c3
       ·refine gS [] [6] ?_
        refine gT ?_
        rw[hjc4,ZX,if_pos (by (try simp only[bb,toN]);exact c3)];rfl
       ·refine gS [] [5,6,7,8,9,10,55,93] ?_
        refine zB ?_ ?_<;>intro c4<;>try simp only[toN]at c4
        ·refine gS [] [6] ?_
         refine gT ?_
         rw[hjc4,ZX,iN (by (try simp only[bb,toN]);exact c3),if_pos c4];rfl
        ·refine gS [] [5,6,7,8,9,10,55,114] ?_
         refine zB ?_ ?_<;>intro c5<;>try simp only[toN]at c5
         ·refine gS [] [6] ?_
          refine gT ?_
          rw[hjc4,ZX,iN (by (try simp only[bb,toN]);exact c3),if_neg c4,if_pos c5];rfl
         ·refine gS [] [5,6,9,10,55,133] ?_
          refine zB ?_ ?_<;>intro c6<;>try simp only[toN]at c6
          ·refine gS [] [6] ?_
           refine gT ?_
           rw[hjc4,ZX,iN (by (try simp only[bb,toN]);exact c3),if_neg c4,if_neg c5,if_pos c6];rfl
          ·refine gS [] [5,6,9,55,151] ?_
           refine zB ?_ ?_<;>intro c7<;>try simp only[toN]at c7
           ·refine zB ?_ ?_<;>intro c8<;>try simp only[toN]at c8
            ·refine gS [] [6] ?_
             refine gT ?_
             rw[hjc4,ZX,iN (by (try simp only[bb,toN]);exact c3),if_neg c4,if_neg c5,if_neg c6,if_pos c7];rfl
            ·exact absurd c7 c8
           ·refine gS [] [5,6,9,151] ?_
            refine zB ?_ ?_<;>intro c9<;>try simp only[toN]at c9
            ·refine gS [] [6] ?_
             refine gT ?_
             rw[hjc4,ZX,iN (by (try simp only[bb,toN]);exact c3),if_neg c4,if_neg c5,if_neg c6,if_neg c7,if_pos c9];rfl
            ·refine gS [] [6] ?_
             refine gT ?_
             rw[hjc4,ZX,iN (by (try simp only[bb,toN]);exact c3),if_neg c4,if_neg c5,if_neg c6,if_neg c7,if_neg c9];rfl
      refine zB ?_ ?_<;>intro c10<;>try simp only[toN]at c10
      ·refine za (decide (a.kind=3)) ?_ (hp:=by simp[zC]<;>rfl)
       exact by rw[hjc3,yP,iN (by (try simp only[bb,toN]);exact c2),if_pos c10]
      ·refine gS [] [5,6,7,8,9,10,55,76] ?_
       refine za (decide (a.kind=5)) ?_ (hp:=by simp[zC]<;>rfl)
       exact by rw[hjc3,yP,iN (by (try simp only[bb,toN]);exact c2),if_neg c10]
    refine zB ?_ ?_<;>intro c11<;>try simp only[toN]at c11
    ·refine za (decide (a.kind=0)) ?_ (hp:=by simp[zC]<;>rfl)
     exact by rw[hjc2,YE,if_pos c11]
    ·refine gS [] [5,6,7,8,9,10,55,56] ?_
     refine zB ?_ ?_<;>intro c12<;>try simp only[toN]at c12
     ·refine za (decide (a.kind=1)) ?_ (hp:=by simp[zC]<;>rfl)
      exact by rw[hjc2,YE,if_neg c11,if_pos c12]
     ·refine gS [] [5,6,7,8,9,10,55,56] ?_
      refine za (decide (a.kind=2)) ?_ (hp:=by simp[zC]<;>rfl)
      exact by rw[hjc2,YE,if_neg c11,if_neg c12]
   refine zE ?_ ?_<;>intro c13<;>try simp only[bb,toN]at c13
   ·have hq:=hxc1 c13
    refine gS [] [5,6,7,8,9,10] ?_
    refine za (decide (((f.signs.getD a.at_.toNat default).who)=a.who)) ?_ (hp:=by simp[zC]<;>rfl)
    exact by rw[hjc1,Yy,if_pos (by (try simp only[bb,toN]);exact c13)]
   ·refine za (false) ?_ (hp:=by simp[zC]<;>rfl)
    exact by rw[hjc1,Yy,iN (by (try simp only[bb,toN]);exact c13)]
  refine zE ?_ ?_<;>intro c14<;>try simp only[bb,toN]at c14
  ·have hq:=c14
   simp only[Zy]at hq
   refine gS [.callq (Q:=0<=a.at_/\a.at_<(f.signs.length:Int)) (fun hq=>zGm f a.at_ a.part hq)] [4,5,6,7,8,9] ?_
   refine za ((zOk f a.at_ a.part)) ?_ (hp:=by simp[zC]<;>rfl)
   exact ⟨by rw[Yi,iN (by (try simp only[bb,toN]);exact c1),if_pos (by (try simp only[bb,toN]);exact c14)],by intro hz;first|(simp only[Zy,bb]at*;omega)|(simp_all;done)⟩
  ·refine za ((wiV a.at_ 0 ((f.signs.length:Int)-1))) ?_ (hp:=by simp[zC]<;>rfl)
   exact ⟨by rw[Yi,iN (by (try simp only[bb,toN]);exact c1),iN (by (try simp only[bb,toN]);exact c14)],by intro hz;first|(simp only[Zy,bb]at*;omega)|(simp_all;done)⟩
theorem zMb {r:Rlm} {f:Fil} {a:Act} (h:Yi r f a=true) (h0:0<=a.at_):a.at_<f.signs.length:=by
 refine Classical.byContradiction fun hn=> ?_
 have ha:wiV a.at_ 0 ((f.signs.length:Int)-1)=false:=by rw[zFp];omega
 have hm:¬a.at_= -1:=by omega
 simp only[Yi,Yy,YE,yP,ZX,ha,hm]at h
 repeat' split at h
 all_goals simp at h
def jL (r:Rlm) (f:Fil) (i:Int) (j6_1:Int):Int:=if 0<i then if ((f.acts.getD i.toNat default).day)<((f.acts.getD ((i-1).toNat) default).day)then 13 else 0 else 0
def QK (r:Rlm) (f:Fil) (i:Int):Int:=if (!(wiV ((f.acts.getD i.toNat default).part) 0 (i64.wrap (f.bill.parts-1))))=true then 15 else if (bif (!(wiV ((f.acts.getD i.toNat default).city) 0 (i64.wrap ((r.cities.length:Int)-1))))then true else (!(wiV ((f.acts.getD i.toNat default).kind) 0 9)))=true then 1 else if (!(Yi r f (f.acts.getD i.toNat default)))=true then 14 else if (bif decide (((f.acts.getD i.toNat default).day)<f.bill.day)then true else decide (100000<((f.acts.getD i.toNat default).day)))=true then 13 else if 0<=((f.acts.getD i.toNat default).at_)then if ((f.acts.getD i.toNat default).day)<((f.signs.getD (((f.acts.getD i.toNat default).at_).toNat) default).day)then 13 else jL r f i 0 else jL r f i 0
theorem zTa (r:Rlm) (f:Fil) (i:Int) (hr:FitR r) (hF:FitFi f) (hi:0<=i/\i<f.acts.length):GC Tryz.prog 60 [rlG r,fiG f,iG i] (iG (QK r f i)):=by
 have h1:=hr.orders
 have h2:=hr.cities
 have h3:=hr.firms
 have h5:=hr.usances
 have h6:=hr.cur
 have g1:=hF.signs
 have g2:=hF.alters
 have g3:=hF.acts
 have g4:=hF.facts
 refine zA Tryz.func60 ?_
 refine gS [] [2,3,4,6] ?_
 refine gS [] [2,3,4,6,7] ?_
 refine zF env true [.call (zu ((f.acts.getD i.toNat default).part) 0 (i64.wrap (f.bill.parts-1)))] [2,3,4,6,7,20] ?_ (hp:=(by simp only[zC,bb,toN,Zy,loI,hiI];repeat' first|exact trivial|exact zI.refl _|exact zH.refl _|exact rfl|omega|apply And.intro|intro _))
 refine zE ?_ ?_<;>intro c1<;>try simp only[bb,toN]at c1
 ·refine gS [] [2,3,4,6,7] ?_
  refine gT ?_
  rw[QK,if_pos (by (try simp only[bb,toN]);exact c1)];rfl
 ·refine zF env true [.call (zu ((f.acts.getD i.toNat default).city) 0 (i64.wrap ((r.cities.length:Int)-1))),.call (zu ((f.acts.getD i.toNat default).kind) 0 9)] [2,3,4,6,7,34] ?_ (hp:=(by simp only[zC,bb,toN,Zy,loI,hiI];repeat' first|exact trivial|exact zI.refl _|exact zH.refl _|exact rfl|omega|apply And.intro|intro _))
  refine zE ?_ ?_<;>intro c2<;>try simp only[bb,toN]at c2
  ·refine gS [] [2,3,4,6,7] ?_
   refine gT ?_
   rw[QK,iN (by (try simp only[bb,toN]);exact c1),if_pos (by (try simp only[bb,toN]);exact c2)];rfl
  ·refine gS [.call (zFk r f (f.acts.getD i.toNat default) hr hF)] [2,4,6,7,39] ?_
   refine zE ?_ ?_<;>intro c3<;>try simp only[bb,toN]at c3
   ·refine gS [] [2,4,6,7] ?_
    refine gT ?_
    rw[QK,iN (by (try simp only[bb,toN]);exact c1),iN (by (try simp only[bb,toN]);exact c2),if_pos (by (try simp only[bb,toN]);exact c3)];rfl
   ·refine gS [] [2,4,6,7,50] ?_
    refine zE ?_ ?_<;>intro c4<;>try simp only[bb,toN]at c4
    ·refine gS [] [2,4,6,7] ?_
     refine gT ?_
     rw[QK,iN (by (try simp only[bb,toN]);exact c1),iN (by (try simp only[bb,toN]);exact c2),iN (by (try simp only[bb,toN]);exact c3),if_pos (by (try simp only[bb,toN]);exact c4)];rfl
    ·refine gS [] [2,4,6,7,53] ?_
     refine yV (α:=Int) (fun x=>QK r f i=jL r f i x) (fun x=>⟨[(2,iG i),(4,.ptr 1 0 0 0),(6,iG x),(7,.ptr 2 0 0 0)],[(0,some (.box [.d (.row default ze r.currencies),.d (.row default ctC r.cities),.d (.row default inC r.groups),.d (.row default fmC r.firms),.d (.row default odC r.orders),.d (.row default usC r.usances),.d (.row default rtC r.rates),.d (.row default htC r.halts)])),(1,some (.box [iG f.bill.drawer,iG f.bill.drawee,iG f.bill.payee,iG f.bill.sum,iG f.bill.cur,iG f.bill.ten.kind,iG f.bill.ten.n,iG f.bill.ten.unit,iG f.bill.day,iG f.bill.city,iG f.bill.pay,iG f.bill.need,iG f.bill.rate,iG f.bill.flags,iG f.bill.parts,.d (.row default sgC f.signs),.d (.row default alC f.alters),.d (.row default acC f.acts),.d (.row default fcC f.facts)])),(2,some (.box [iG ((f.acts.getD i.toNat default).kind),iG ((f.acts.getD i.toNat default).who),iG ((f.acts.getD i.toNat default).to_),iG ((f.acts.getD i.toNat default).part),iG ((f.acts.getD i.toNat default).at_),iG ((f.acts.getD i.toNat default).sum),iG ((f.acts.getD i.toNat default).day),iG ((f.acts.getD i.toNat default).city),iG ((f.acts.getD i.toNat default).form)]))],3⟩) ?_ ?_
     ·rintro j6_1 hjc1
      refine gS [] [2,4,6,7,65] ?_
      refine zB ?_ ?_<;>intro c5<;>try simp only[toN]at c5
      ·refine gS [] [6,75] ?_
       refine zB ?_ ?_<;>intro c6<;>try simp only[toN]at c6
       ·refine gS [] [6] ?_
        refine gT ?_
        rw[hjc1,jL,if_pos c5,if_pos c6];rfl
       ·refine gS [] [6] ?_
        refine gT ?_
        rw[hjc1,jL,if_pos c5,if_neg c6];rfl
      ·refine gS [] [6] ?_
       refine gT ?_
       rw[hjc1,jL,if_neg c5];rfl
     refine zB ?_ ?_<;>intro c7<;>try simp only[toN]at c7
     ·have hq:=zMb (by assumption) (by assumption)
      refine gS [] [2,4,6,7,63] ?_
      refine zB ?_ ?_<;>intro c8<;>try simp only[toN]at c8
      ·refine gS [] [2,4,6,7] ?_
       refine gT ?_
       rw[QK,iN (by (try simp only[bb,toN]);exact c1),iN (by (try simp only[bb,toN]);exact c2),iN (by (try simp only[bb,toN]);exact c3),iN (by (try simp only[bb,toN]);exact c4),if_pos c7,if_pos c8];rfl
      ·refine za (0) ?_ (hp:=by simp[zC]<;>rfl)
       exact by rw[QK,iN (by (try simp only[bb,toN]);exact c1),iN (by (try simp only[bb,toN]);exact c2),iN (by (try simp only[bb,toN]);exact c3),iN (by (try simp only[bb,toN]);exact c4),if_pos c7,if_neg c8]
     ·refine za (0) ?_ (hp:=by simp[zC]<;>rfl)
      exact by rw[QK,iN (by (try simp only[bb,toN]);exact c1),iN (by (try simp only[bb,toN]);exact c2),iN (by (try simp only[bb,toN]);exact c3),iN (by (try simp only[bb,toN]);exact c4),if_neg c7]
def qN (f:Fil) (i:Int):Int:=if (bif (bif (!(wiV ((f.facts.getD i.toNat default).kind) 0 4))then true else (!(wiV ((f.facts.getD i.toNat default).at_) 0 (i64.wrap ((f.signs.length:Int)-1)))))then true else (!(wiV ((f.facts.getD i.toNat default).n) 0 1)))=true then 1 else if 0<i then if (bif decide (((f.facts.getD i.toNat default).at_)<((f.facts.getD ((i-1).toNat) default).at_))then true else (bif decide (((f.facts.getD ((i-1).toNat) default).at_)=((f.facts.getD i.toNat default).at_))then decide (((f.facts.getD i.toNat default).kind)<=((f.facts.getD ((i-1).toNat) default).kind))else false))=true then 5 else 0 else 0
theorem zLm (f:Fil) (i:Int) (hF:FitFi f) (hi:0<=i/\i<f.facts.length):GC Tryz.prog 61 [fiG f,iG i] (iG (qN f i)):=by
 have g1:=hF.signs
 have g2:=hF.alters
 have g3:=hF.acts
 have g4:=hF.facts
 refine zA Tryz.func61 ?_
 refine gS [] [1,2,4] ?_
 refine gS [] [1,2,4,5] ?_
 refine zF env true [.call (zu ((f.facts.getD i.toNat default).kind) 0 4),.call (zu ((f.facts.getD i.toNat default).at_) 0 (i64.wrap ((f.signs.length:Int)-1))),.call (zu ((f.facts.getD i.toNat default).n) 0 1)] [1,2,4,5,31] ?_ (hp:=(by simp only[zC,bb,toN,Zy,loI,hiI];repeat' first|exact trivial|exact zI.refl _|exact zH.refl _|exact rfl|omega|apply And.intro|intro _))
 refine zE ?_ ?_<;>intro c1<;>try simp only[bb,toN]at c1
 ·refine gS [] [1,2,4,5] ?_
  refine gT ?_
  rw[qN,if_pos (by (try simp only[bb,toN]);exact c1)];rfl
 ·refine gS [] [1,2,4,5,33] ?_
  refine zB ?_ ?_<;>intro c2<;>try simp only[toN]at c2
  ·refine gS [] [4,5,6] ?_
   refine gS [] [4,58] ?_
   refine zE ?_ ?_<;>intro c3<;>try simp only[bb,toN]at c3
   ·refine gS [] [4] ?_
    refine gT ?_
    rw[qN,iN (by (try simp only[bb,toN]);exact c1),if_pos c2,if_pos (by (try simp only[bb,toN]);exact c3)];rfl
   ·refine gS [] [4] ?_
    refine gT ?_
    rw[qN,iN (by (try simp only[bb,toN]);exact c1),if_pos c2,iN (by (try simp only[bb,toN]);exact c3)];rfl
  ·refine gS [] [4] ?_
   refine gT ?_
   rw[qN,iN (by (try simp only[bb,toN]);exact c1),if_neg c2];rfl
def Yc (r:Rlm) (f:Fil) (j5_1:Int) (a5_1:Int) (k1:Nat) (a5_2:Int) (k2:Nat) (a5_3:Int) (k3:Nat) (a5_4:Int) (k4:Nat):Int:=if (bif decide ((k4:Int)<(f.facts.length:Int))then decide (a5_4=0)else false)=true then Yc r f j5_1 a5_1 k1 a5_2 k2 a5_3 k3 (qN f (k4:Int)) (k4+1)else a5_4
termination_by f.facts.length-k4
decreasing_by all_goals first|omega|(simp only[bb]at*;omega)
def Yd (r:Rlm) (f:Fil) (j5_1:Int) (a5_1:Int) (k1:Nat) (a5_2:Int) (k2:Nat) (a5_3:Int) (k3:Nat):Int:=if (bif decide ((k3:Int)<(f.acts.length:Int))then decide (a5_3=0)else false)=true then Yd r f j5_1 a5_1 k1 a5_2 k2 (QK r f (k3:Int)) (k3+1)else Yc r f j5_1 a5_1 k1 a5_2 k2 a5_3 k3 a5_3 0
termination_by f.acts.length-k3
decreasing_by all_goals first|omega|(simp only[bb]at*;omega)
def zt (r:Rlm) (f:Fil) (j5_1:Int) (a5_1:Int) (k1:Nat) (a5_2:Int) (k2:Nat):Int:=if (bif decide ((k2:Int)<(f.alters.length:Int))then decide (a5_2=0)else false)=true then if 0<(k2:Int)then if (!(wiV ((f.alters.getD k2 default).at_) (i64.wrap (((f.alters.getD ((i64.wrap ((k2:Int)-1)).toNat) default).at_)+1)) (f.signs.length:Int)))=true then zt r f j5_1 a5_1 k1 1 (k2+1)else if (!(wiV ((f.alters.getD k2 default).sum) 1 1099511627776))=true then zt r f j5_1 a5_1 k1 3 (k2+1)else zt r f j5_1 a5_1 k1 a5_2 (k2+1)else if (!(wiV ((f.alters.getD k2 default).at_) 1 (f.signs.length:Int)))=true then zt r f j5_1 a5_1 k1 1 (k2+1)else if (!(wiV ((f.alters.getD k2 default).sum) 1 1099511627776))=true then zt r f j5_1 a5_1 k1 3 (k2+1)else zt r f j5_1 a5_1 k1 a5_2 (k2+1)else Yd r f j5_1 a5_1 k1 a5_2 k2 a5_2 0
termination_by f.alters.length-k2
decreasing_by all_goals first|omega|(simp only[bb]at*;omega)
def Ql (r:Rlm) (f:Fil) (j5_1:Int) (a5_1:Int) (k1:Nat):Int:=if (bif decide ((k1:Int)<(f.signs.length:Int))then decide (a5_1=0)else false)=true then Ql r f j5_1 (YT r f (k1:Int)) (k1+1)else zt r f j5_1 a5_1 k1 a5_1 0
termination_by f.signs.length-k1
decreasing_by all_goals first|omega|(simp only[bb]at*;omega)
def JZ (r:Rlm) (f:Fil) (j5_1:Int):Int:=Ql r f j5_1 j5_1 0
def WZ (r:Rlm) (f:Fil):Int:=if (bif (bif (bif decide (40<(f.signs.length:Int))then true else decide (4<(f.alters.length:Int)))then true else decide (100<(f.acts.length:Int)))then true else decide (200<(f.facts.length:Int)))=true then 6 else if (bif decide ((QE r f.bill)=0)then decide ((f.signs.length:Int)=0)else false)=true then JZ r f 14 else JZ r f (QE r f.bill)
theorem zRy (r:Rlm) (f:Fil) (hr:FitR r) (hF:FitFi f):GC Tryz.prog 22 [rlG r,fiG f] (iG (WZ r f)):=by
 have h1:=hr.orders
 have h2:=hr.cities
 have h3:=hr.firms
 have h5:=hr.usances
 have h6:=hr.cur
 have g1:=hF.signs
 have g2:=hF.alters
 have g3:=hF.acts
 have g4:=hF.facts
 refine zA Tryz.func22 ?_
 refine gS [] [2,3,4] ?_
 refine gS [] [2,3,4,32] ?_
 refine zE ?_ ?_<;>intro c1<;>try simp only[bb,toN]at c1
 ·refine gS [] [2,3,4] ?_
  refine gT ?_
  rw[WZ,if_pos (by (try simp only[bb,toN]);exact c1)];rfl
 ·refine gS [.call (zRz r f.bill hr)] [2,3,4,5] ?_
  refine gS [] [2,3,4,5,44] ?_
  refine yV (α:=Int) (fun x=>WZ r f=JZ r f x) (fun x=>⟨[(2,.ptr 0 0 0 0),(3,.ptr 1 0 0 0),(4,iG 0),(5,iG x)],[(0,some (.box [.d (.row default ze r.currencies),.d (.row default ctC r.cities),.d (.row default inC r.groups),.d (.row default fmC r.firms),.d (.row default odC r.orders),.d (.row default usC r.usances),.d (.row default rtC r.rates),.d (.row default htC r.halts)])),(1,some (.box [iG f.bill.drawer,iG f.bill.drawee,iG f.bill.payee,iG f.bill.sum,iG f.bill.cur,iG f.bill.ten.kind,iG f.bill.ten.n,iG f.bill.ten.unit,iG f.bill.day,iG f.bill.city,iG f.bill.pay,iG f.bill.need,iG f.bill.rate,iG f.bill.flags,iG f.bill.parts,.d (.row default sgC f.signs),.d (.row default alC f.alters),.d (.row default acC f.acts),.d (.row default fcC f.facts)]))],2⟩) ?_ ?_
  ·rintro j5_1 hjc1
   refine gS [] [2,3,4,5,6] ?_
   refine zG (α:=Int×Nat) (fun x=>x.2<=f.signs.length/\Ql r f j5_1 j5_1 0=Ql r f j5_1 x.1 x.2) (fun x=>[(5,iG x.1),(6,iG x.2)]) (fun x=>[]) (fun x=>f.signs.length-x.2) (j5_1,0) ⟨by (try simp only[]);omega,rfl⟩ ?_ (hp:=by simp[zC]<;>rfl)
   rintro ⟨a5_1,k1⟩ ⟨hi1,he⟩
   dsimp only at*
   refine gS [] [2,3,4,5,6,53] ?_
   refine zE ?_ ?_<;>intro c2<;>try simp only[bb,toN]at c2
   ·refine gS [.call (zIh r f (k1:Int) hr hF (by first|assumption|omega))] [2,3,4,5,6] ?_
    refine gS [] [2,3,4,5,6] ?_
    refine zD (((YT r f (k1:Int)),k1+1)) ?_ (hp:=by simp[zC]<;>rfl) (hm:=by dsimp only;omega)
    refine ⟨by (try simp only[]);omega,he.trans ?_⟩
    rw[Ql,if_pos (by (try simp only[bb,toN]);exact c2)]
    try rfl
   ·refine gS [] [2,3,4,5,7] ?_
    refine zG (α:=Int×Nat) (fun x=>x.2<=f.alters.length/\zt r f j5_1 a5_1 k1 a5_1 0=zt r f j5_1 a5_1 k1 x.1 x.2) (fun x=>[(5,iG x.1),(7,iG x.2)]) (fun x=>[]) (fun x=>f.alters.length-x.2) (a5_1,0) ⟨by (try simp only[]);omega,rfl⟩ ?_ (hp:=by simp[zC]<;>rfl)
    rintro ⟨a5_2,k2⟩ ⟨hi2,he2⟩
    dsimp only at*
    refine gS [] [2,3,4,5,7,68] ?_
    refine zE ?_ ?_<;>intro c3<;>try simp only[bb,toN]at c3
    ·refine gS [] [2,3,4,5,7,8] ?_
     refine gS [] [2,3,4,5,7,8,72] ?_
     refine zB ?_ ?_<;>intro c4<;>try simp only[toN]at c4
     ·have hw:i64.wrap ((k2:Int)-1)=(k2:Int)-1:=Ze (by unfold inR;omega)
      refine zF env true [] [2,3,4,5,7,8] ?_ (hp:=(by simp only[zC,bb,toN,hw,Zy,loI,hiI];repeat' first|exact trivial|exact zI.refl _|exact zH.refl _|exact rfl|omega|apply And.intro|intro _))
      refine gS [.call (zu ((f.alters.getD k2 default).at_) (i64.wrap (((f.alters.getD ((i64.wrap ((k2:Int)-1)).toNat) default).at_)+1)) (f.signs.length:Int))] [2,3,4,5,7,92] ?_
      refine zE ?_ ?_<;>intro c5<;>try simp only[bb,toN]at c5
      ·refine gS [] [2,3,4,5,7] ?_
       refine gS [] [2,3,4,5,7] ?_
       refine zD ((1,k2+1)) ?_ (hp:=by simp[zC]<;>rfl) (hm:=by dsimp only;omega)
       refine ⟨by (try simp only[]);omega,he2.trans ?_⟩
       rw[zt,if_pos (by (try simp only[bb,toN]);exact c3),if_pos c4,if_pos (by (try simp only[bb,toN]);exact c5)]
       try rfl
      ·refine gS [.call (zu ((f.alters.getD k2 default).sum) 1 1099511627776)] [2,3,4,5,7,100] ?_
       refine zE ?_ ?_<;>intro c6<;>try simp only[bb,toN]at c6
       ·refine gS [] [2,3,4,5,7] ?_
        refine gS [] [2,3,4,5,7] ?_
        refine zD ((3,k2+1)) ?_ (hp:=by simp[zC]<;>rfl) (hm:=by dsimp only;omega)
        refine ⟨by (try simp only[]);omega,he2.trans ?_⟩
        rw[zt,if_pos (by (try simp only[bb,toN]);exact c3),if_pos c4,iN (by (try simp only[bb,toN]);exact c5),if_pos (by (try simp only[bb,toN]);exact c6)]
        try rfl
       ·refine gS [] [2,3,4,5,7] ?_
        refine zD ((a5_2,k2+1)) ?_ (hp:=by simp[zC]<;>rfl) (hm:=by dsimp only;omega)
        refine ⟨by (try simp only[]);omega,he2.trans ?_⟩
        rw[zt,if_pos (by (try simp only[bb,toN]);exact c3),if_pos c4,iN (by (try simp only[bb,toN]);exact c5),iN (by (try simp only[bb,toN]);exact c6)]
        try rfl
     ·refine gS [.call (zu ((f.alters.getD k2 default).at_) 1 (f.signs.length:Int))] [2,3,4,5,7,92] ?_
      refine zE ?_ ?_<;>intro c7<;>try simp only[bb,toN]at c7
      ·refine gS [] [2,3,4,5,7] ?_
       refine gS [] [2,3,4,5,7] ?_
       refine zD ((1,k2+1)) ?_ (hp:=by simp[zC]<;>rfl) (hm:=by dsimp only;omega)
       refine ⟨by (try simp only[]);omega,he2.trans ?_⟩
       rw[zt,if_pos (by (try simp only[bb,toN]);exact c3),if_neg c4,if_pos (by (try simp only[bb,toN]);exact c7)]
       try rfl
      ·refine gS [.call (zu ((f.alters.getD k2 default).sum) 1 1099511627776)] [2,3,4,5,7,100] ?_
       refine zE ?_ ?_<;>intro c8<;>try simp only[bb,toN]at c8
       ·refine gS [] [2,3,4,5,7] ?_
        refine gS [] [2,3,4,5,7] ?_
        refine zD ((3,k2+1)) ?_ (hp:=by simp[zC]<;>rfl) (hm:=by dsimp only;omega)
        refine ⟨by (try simp only[]);omega,he2.trans ?_⟩
        rw[zt,if_pos (by (try simp only[bb,toN]);exact c3),if_neg c4,iN (by (try simp only[bb,toN]);exact c7),if_pos (by (try simp only[bb,toN]);exact c8)]
        try rfl
       ·refine gS [] [2,3,4,5,7] ?_
        refine zD ((a5_2,k2+1)) ?_ (hp:=by simp[zC]<;>rfl) (hm:=by dsimp only;omega)
        refine ⟨by (try simp only[]);omega,he2.trans ?_⟩
        rw[zt,if_pos (by (try simp only[bb,toN]);exact c3),if_neg c4,iN (by (try simp only[bb,toN]);exact c7),iN (by (try simp only[bb,toN]);exact c8)]
        try rfl
    ·refine gS [] [2,3,4,5,9] ?_
     refine zG (α:=Int×Nat) (fun x=>x.2<=f.acts.length/\Yd r f j5_1 a5_1 k1 a5_2 k2 a5_2 0=Yd r f j5_1 a5_1 k1 a5_2 k2 x.1 x.2) (fun x=>[(5,iG x.1),(9,iG x.2)]) (fun x=>[]) (fun x=>f.acts.length-x.2) (a5_2,0) ⟨by (try simp only[]);omega,rfl⟩ ?_ (hp:=by simp[zC]<;>rfl)
     rintro ⟨a5_3,k3⟩ ⟨hi3,he3⟩
     dsimp only at*
     refine gS [] [2,3,4,5,9,109] ?_
     refine zE ?_ ?_<;>intro c9<;>try simp only[bb,toN]at c9
     ·refine gS [.call (zTa r f (k3:Int) hr hF (by first|assumption|omega))] [2,3,4,5,9] ?_
      refine gS [] [2,3,4,5,9] ?_
      refine zD (((QK r f (k3:Int)),k3+1)) ?_ (hp:=by simp[zC]<;>rfl) (hm:=by dsimp only;omega)
      refine ⟨by (try simp only[]);omega,he3.trans ?_⟩
      rw[Yd,if_pos (by (try simp only[bb,toN]);exact c9)]
      try rfl
     ·refine gS [] [3,4,5,10] ?_
      refine zG (α:=Int×Nat) (fun x=>x.2<=f.facts.length/\Yc r f j5_1 a5_1 k1 a5_2 k2 a5_3 k3 a5_3 0=Yc r f j5_1 a5_1 k1 a5_2 k2 a5_3 k3 x.1 x.2) (fun x=>[(5,iG x.1),(10,iG x.2)]) (fun x=>[]) (fun x=>f.facts.length-x.2) (a5_3,0) ⟨by (try simp only[]);omega,rfl⟩ ?_ (hp:=by simp[zC]<;>rfl)
      rintro ⟨a5_4,k4⟩ ⟨hi4,he4⟩
      dsimp only at*
      refine gS [] [3,4,5,10,124] ?_
      refine zE ?_ ?_<;>intro c10<;>try simp only[bb,toN]at c10
      ·refine gS [.call (zLm f (k4:Int) hF (by first|assumption|omega))] [3,4,5,10] ?_
       refine gS [] [3,4,5,10] ?_
       refine zD (((qN f (k4:Int)),k4+1)) ?_ (hp:=by simp[zC]<;>rfl) (hm:=by dsimp only;omega)
       refine ⟨by (try simp only[]);omega,he4.trans ?_⟩
       rw[Yc,if_pos (by (try simp only[bb,toN]);exact c10)]
       try rfl
      ·refine gS [] [4] ?_
       refine gT ?_
       rw[hjc1,JZ,he,Ql,iN (by (try simp only[bb,toN]);exact c2),he2,zt,iN (by (try simp only[bb,toN]);exact c3),he3,Yd,iN (by (try simp only[bb,toN]);exact c9),he4,Yc,iN (by (try simp only[bb,toN]);exact c10)];rfl
  refine zE ?_ ?_<;>intro c11<;>try simp only[bb,toN]at c11
  ·refine gS [] [2,3,4,5] ?_
   refine za (14) ?_ (hp:=by simp[zC]<;>rfl)
   exact by rw[WZ,iN (by (try simp only[bb,toN]);exact c1),if_pos (by (try simp only[bb,toN]);exact c11)]
  ·refine za ((QE r f.bill)) ?_ (hp:=by simp[zC]<;>rfl)
   exact by rw[WZ,iN (by (try simp only[bb,toN]);exact c1),iN (by (try simp only[bb,toN]);exact c11)]
structure MemR (r:Rlm):Prop where
 cities:r.cities.length<=9223372036854775807
 orders:r.orders.length<=9223372036854775807
def Yv (r:Rlm) (k1:Nat) (k2:Nat):Bool:=if (bif decide ((k2:Int)<(r.orders.length:Int))then decide ((k2:Int)<50)else false)=true then if (bif decide (40<(((r.orders.getD k2 default).choices).length:Int))then true else decide (40<(((r.orders.getD k2 default).rules).length:Int)))=true then false else Yv r k1 (k2+1)else (bif (bif (bif (bif (bif (bif (bif decide ((r.currencies.length:Int)<50)then decide ((r.cities.length:Int)<50)else false)then decide ((r.groups.length:Int)<50)else false)then decide ((r.firms.length:Int)<210)else false)then decide ((r.orders.length:Int)<50)else false)then decide ((r.usances.length:Int)<110)else false)then decide ((r.rates.length:Int)<110)else false)then decide ((r.halts.length:Int)<50)else false)
termination_by 50-k2
decreasing_by all_goals first|omega|(simp only[bb]at*;omega)
def JU (r:Rlm) (k1:Nat):Bool:=if (bif decide ((k1:Int)<(r.cities.length:Int))then decide ((k1:Int)<50)else false)=true then if (bif (bif decide (70<(((r.cities.getD k1 default).feasts).length:Int))then true else decide (210<(((r.cities.getD k1 default).shut).length:Int)))then true else decide (8<(((r.cities.getD k1 default).rest).length:Int)))=true then false else JU r (k1+1)else Yv r k1 0
termination_by 50-k1
decreasing_by all_goals first|omega|(simp only[bb]at*;omega)
def zEh (r:Rlm):Bool:=JU r 0
theorem zWv (r:Rlm):GC Tryz.prog 49 [rlG r] (bG (zEh r)):=by
 refine zA Tryz.func49 ?_
 refine gE [1,2] ?_
 refine gE [1,2,3] ?_
 refine zG (α:=Nat) (fun x=>x<=50/\JU r 0=JU r x) (fun x=>[(3,iG x)]) (fun x=>[]) (fun x=>50-x) 0 ⟨by (try simp only[]);omega,rfl⟩ ?_ (hp:=by simp[zC]<;>rfl)
 rintro k1 ⟨hi1,he⟩
 refine gE [1,2,3,13] ?_
 refine zE ?_ ?_<;>intro c1<;>try simp only[bb,toN]at c1
 ·refine gE [1,2,3,43] ?_
  refine zE ?_ ?_<;>intro c2<;>try simp only[bb,toN]at c2
  ·refine gE [1,2,3] ?_
   refine gT ?_
   rw[zEh,he,JU,if_pos (by (try simp only[bb,toN]);exact c1),if_pos (by (try simp only[bb,toN]);exact c2)];rfl
  ·refine gE [1,2,3] ?_
   refine zD (k1+1) ?_ (hp:=by simp[zC]<;>rfl)
   refine ⟨by (try simp only[]);omega,he.trans ?_⟩
   rw[JU,if_pos (by (try simp only[bb,toN]);exact c1),iN (by (try simp only[bb,toN]);exact c2)]
   try rfl
 ·refine gE [1,2,4] ?_
  refine zG (α:=Nat) (fun x=>x<=50/\Yv r k1 0=Yv r k1 x) (fun x=>[(4,iG x)]) (fun x=>[]) (fun x=>50-x) 0 ⟨by (try simp only[]);omega,rfl⟩ ?_ (hp:=by simp[zC]<;>rfl)
  rintro k2 ⟨hi2,he2⟩
  refine gE [1,2,4,52] ?_
  refine zE ?_ ?_<;>intro c3<;>try simp only[bb,toN]at c3
  ·refine gE [1,2,4,72] ?_
   refine zE ?_ ?_<;>intro c4<;>try simp only[bb,toN]at c4
   ·refine gE [1,2,4] ?_
    refine gT ?_
    rw[zEh,he,JU,iN (by (try simp only[bb,toN]);exact c1),he2,Yv,if_pos (by (try simp only[bb,toN]);exact c3),if_pos (by (try simp only[bb,toN]);exact c4)];rfl
   ·refine gE [1,2,4] ?_
    refine zD (k2+1) ?_ (hp:=by simp[zC]<;>rfl)
    refine ⟨by (try simp only[]);omega,he2.trans ?_⟩
    rw[Yv,if_pos (by (try simp only[bb,toN]);exact c3),iN (by (try simp only[bb,toN]);exact c4)]
    try rfl
  ·refine gE [2] ?_
   refine gT ?_
   rw[zEh,he,JU,iN (by (try simp only[bb,toN]);exact c1),he2,Yv,iN (by (try simp only[bb,toN]);exact c3)];rfl
def zAp (f:Fil):Bool:=(bif (bif (bif decide ((f.signs.length:Int)<=50)then decide ((f.alters.length:Int)<=10)else false)then decide ((f.acts.length:Int)<=110)else false)then decide ((f.facts.length:Int)<=220)else false)
theorem zRi (f:Fil):GC Tryz.prog 50 [fiG f] (bG (zAp f)):=by
 refine zA Tryz.func50 ?_
 refine gE [1,2] ?_
 refine gE [2] ?_
 refine gT ?_
 rw[zAp];rfl
def QN:Nat->Tm->Prop
 |0,t=>t.args= []
 |k+1,t=>t.args.length<=9223372036854775807/\∀a,a∈t.args->QN k a
theorem QN.len {k:Nat} {t:Tm} (h:QN k t):t.args.length<=9223372036854775807:=by
 cases k with
 |zero=>have h:t.args= []:=h;rw[h];simp
 |succ k=>exact h.1
theorem QN.at_ {k:Nat} {t:Tm} (h:QN k t) {i:Nat} (hi:i<t.args.length):∃j,k=j+1/\QN j (t.args.getD i default):=by
 cases k with
 |zero=>have h:t.args= []:=h;rw[h]at hi;simp at hi
 |succ k=>exact ⟨k,rfl,h.2 _ (zK hi)⟩
def jn (f:Tm->Int->Int->Int) (t:Tm) (n:Int) (lv:Int) (a1_1:Int) (k1:Nat):Int:=if (bif decide ((k1:Int)<(t.args.length:Int))then decide (0<=a1_1)else false)=true then jn f t n lv (f (t.args.getD k1 default) a1_1 (i64.wrap (lv-1))) (k1+1)else a1_1
termination_by t.args.length-k1
decreasing_by all_goals first|omega|(simp only[bb]at*;omega)
def XX (f:Tm->Int->Int->Int) (t:Tm) (n:Int) (lv:Int):Int:=if lv<1 then (-1)else jn f t n lv (i64.wrap (n-1)) 0
theorem zFz (f:Tm->Int->Int->Int) (t:Tm) (n:Int) (lv:Int) (k:Nat) (hf:∀j,k=j+1->∀a n lv,QN j a->GC Tryz.prog 127 [Qe j a,iG n,iG lv] (iG (f a n lv))) (ht:QN k t):GC Tryz.prog 127 [Qe k t,iG n,iG lv] (iG (XX f t n lv)):=by
 have hl:=ht.len
 refine zA Tryz.func127 ?_
 refine gE [1,2,3,6] ?_
 refine zF env true [] [1,2,3,6] ?_
 refine gE [1,2,3,6,11] ?_
 refine zB ?_ ?_<;>intro c1<;>try simp only[toN]at c1
 ·refine gE [1,2,3,6] ?_
  refine gT ?_
  rw[XX,if_pos c1];rfl
 ·refine gE [1,2,3,6,7] ?_
  refine zG (α:=Int×Nat) (fun x=>x.2<=t.args.length/\jn f t n lv (i64.wrap (n-1)) 0=jn f t n lv x.1 x.2) (fun x=>[(1,iG x.1),(7,iG x.2)]) (fun x=>[]) (fun x=>t.args.length-x.2) (i64.wrap (n-1),0) ⟨by (try simp only[]);omega,rfl⟩ ?_ (hp:=by simp[zC]<;>rfl)
  rintro ⟨a1_1,k1⟩ ⟨hi1,he⟩
  dsimp only at*
  refine gE [1,2,3,6,7,20] ?_
  refine zE ?_ ?_<;>intro c2<;>try simp only[bb,toN]at c2
  ·obtain ⟨j,rfl,hfa⟩:=ht.at_ (i:=k1) (by omega)
   refine zF env true [.call (hf _ rfl (t.args.getD k1 default) a1_1 (i64.wrap (lv-1)) hfa)] [1,2,3,6,7] ?_
   refine gE [1,2,3,6,7] ?_
   refine zD (((f (t.args.getD k1 default) a1_1 (i64.wrap (lv-1))),k1+1)) ?_ (hp:=by simp[zC]<;>rfl) (hm:=by dsimp only;omega)
   refine ⟨by (try simp only[]);omega,he.trans ?_⟩
   rw[jn,if_pos (by (try simp only[bb,toN]);exact c2)]
   try rfl
  ·refine gE [6] ?_
   refine gT ?_
   rw[XX,if_neg c1,he,jn,iN (by (try simp only[bb,toN]);exact c2)];rfl
def uo:Nat->Tm->Int->Int->Int
 |0=>XX fun _ _ _=>0
 |k+1=>XX (uo k)
theorem zTo:∀(k:Nat) (t:Tm) (n lv:Int),QN k t->GC Tryz.prog 127 [Qe k t,iG n,iG lv] (iG (uo k t n lv)):=by
 intro k
 induction k with
 |zero=>intro t n lv h;exact zFz _ t n lv 0 (fun j e=>by omega) h
 |succ k ih=>intro t n lv h;exact zFz (uo k) t n lv (k+1) (fun j e=>by cases e;exact ih) h
def Uz (t:Tm):Bool:=decide (0<=(uo Dep.d t 100 20))
theorem zRh (t:Tm) (ht:QN Dep.d t):GC Tryz.prog 81 [Qe Dep.d t] (bG (Uz t)):=by
 refine zA Tryz.func81 ?_
 refine gE [1,2] ?_
 refine gR [.call (zTo Dep.d t 100 20 ht)] [2] ?_
 refine gT ?_
 rw[Uz];rfl
def jf (o:Od) (k1:Nat):Bool:=if k1<o.rules.length then if (!(Uz ((o.rules.getD k1 default).term)))=true then false else jf o (k1+1)else true
termination_by o.rules.length-k1
def vW (o:Od):Bool:=if (bif decide (60<(o.rules.length:Int))then true else decide (60<(o.choices.length:Int)))=true then false else jf o 0
theorem zRg (o:Od) (ho:∀x,x∈o.rules->QN Dep.d x.term):GC Tryz.prog 51 [odG o] (bG (vW o)):=by
 refine zA Tryz.func51 ?_
 refine gE [1,2] ?_
 refine gE [1,2,13] ?_
 refine zE ?_ ?_<;>intro c1<;>try simp only[bb,toN]at c1
 ·refine gE [1,2] ?_
  refine gT ?_
  rw[vW,if_pos (by (try simp only[bb,toN]);exact c1)];rfl
 ·refine gE [1,2,3] ?_
  refine zG (α:=Nat) (fun x=>x<=o.rules.length/\jf o 0=jf o x) (fun x=>[(3,iG x)]) (fun x=>[]) (fun x=>o.rules.length-x) 0 ⟨by (try simp only[]);omega,rfl⟩ ?_ (hp:=by simp[zC]<;>rfl)
  rintro k1 ⟨hi1,he⟩
  refine gE [1,2,3,18] ?_
  refine zB ?_ ?_<;>intro c2<;>try simp only[toN]at c2
  ·refine gR [.call (zRh ((o.rules.getD k1 default).term) (by first|assumption|exact ho _ (zK (by omega))))] [1,2,3,28] ?_
   refine zE ?_ ?_<;>intro c3<;>try simp only[bb,toN]at c3
   ·refine gE [1,2,3] ?_
    refine gT ?_
    rw[vW,iN (by (try simp only[bb,toN]);exact c1),he,jf,if_pos (by omega),if_pos (by (try simp only[bb,toN]);exact c3)];rfl
   ·refine gE [1,2,3] ?_
    refine zD (k1+1) ?_ (hp:=by simp[zC]<;>rfl)
    refine ⟨by (try simp only[]);omega,he.trans ?_⟩
    rw[jf,if_pos (by omega),iN (by (try simp only[bb,toN]);exact c3)]
    try rfl
  ·refine gE [2] ?_
   refine gT ?_
   rw[vW,iN (by (try simp only[bb,toN]);exact c1),he,jf,if_neg (by omega)];rfl
def KQ (a b:Clm):Bool:=decide (a.debtor=b.debtor)&&(decide (a.creditor=b.creditor)&&(decide (a.part=b.part)&&(decide (a.sign=b.sign)&&(decide (a.by_=b.by_)&&(decide (a.turn=b.turn)&&(decide (a.sum=b.sum)&&(decide (a.cur=b.cur)&&(decide (a.state=b.state)&&(true)))))))))
theorem zWx (a b:Clm):EqC Tryz.prog 55 [.int .i64 a.debtor,.int .i64 a.creditor,.int .i64 a.part,.int .i64 a.sign,.int .i64 a.by_,.int .i64 a.turn,.int .i64 a.sum,.int .i64 a.cur,.int .i64 a.state] [.int .i64 b.debtor,.int .i64 b.creditor,.int .i64 b.part,.int .i64 b.sign,.int .i64 b.by_,.int .i64 b.turn,.int .i64 b.sum,.int .i64 b.cur,.int .i64 b.state] (KQ a b):=EqC.of Zk rfl rfl (by kernel_rfl) (by kernel_rfl) (.int Zk rfl rfl rfl rfl (.int Zk rfl rfl rfl rfl (.int Zk rfl rfl rfl rfl (.int Zk rfl rfl rfl rfl (.int Zk rfl rfl rfl rfl (.int Zk rfl rfl rfl rfl (.int Zk rfl rfl rfl rfl (.int Zk rfl rfl rfl rfl (.int Zk rfl rfl rfl rfl .nil)))))))))
def Qf (a:List Clm) (b:List Clm) (k1:Nat):Bool:=if k1<a.length then if (!(KQ (a.getD k1 default) (b.getD k1 default)))=true then false else Qf a b (k1+1)else true
termination_by a.length-k1
def vN (a:List Clm) (b:List Clm):Bool:=if (a.length:Int)=(b.length:Int)then Qf a b 0 else false
theorem zNh (a:List Clm) (b:List Clm) (ha:a.length<=1000000):GC Tryz.prog 10 [.d (.row default clC a),.d (.row default clC b)] (bG (vN a b)):=by
 refine zA Tryz.func10 ?_
 refine gE [0,1,4] ?_
 refine gE [0,1,4,10] ?_
 refine zT ?_ ?_<;>intro c1<;>try simp only[toN]at c1
 ·refine gE [0,1,4] ?_
  refine gT ?_
  rw[vN,if_neg c1];rfl
 ·refine gE [0,1,4,5] ?_
  refine zG (α:=Nat) (fun x=>x<=a.length/\Qf a b 0=Qf a b x) (fun x=>[(5,iG x)]) (fun x=>[]) (fun x=>a.length-x) 0 ⟨by (try simp only[]);omega,rfl⟩ ?_ (hp:=by simp[zC]<;>rfl)
  rintro k1 ⟨hi1,he⟩
  refine gE [0,1,4,5,14] ?_
  refine zB ?_ ?_<;>intro c2<;>try simp only[toN]at c2
  ·refine gR [.eq (zWx (a.getD k1 default) (b.getD k1 default))] [0,1,4,5,25] ?_
   refine zE ?_ ?_<;>intro c3<;>try simp only[bb,toN]at c3
   ·refine gE [0,1,4,5] ?_
    refine gT ?_
    rw[vN,if_pos c1,he,Qf,if_pos (by omega),if_pos (by (try simp only[bb,toN]);exact c3)];rfl
   ·refine gE [0,1,4,5] ?_ (hp:=(by clear c3;simp only[zC,bb,toN,loI,hiI];repeat' first|exact trivial|exact zI.refl _|exact zH.refl _|exact rfl|omega|apply And.intro|intro _))
    refine zD (k1+1) ?_ (hp:=by simp[zC]<;>rfl)
    refine ⟨by (try simp only[]);omega,he.trans ?_⟩
    rw[Qf,if_pos (by omega),iN (by (try simp only[bb,toN]);exact c3)]
    try rfl
  ·refine gE [4] ?_
   refine gT ?_
   rw[vN,if_pos c1,he,Qf,if_neg (by omega)];rfl
def JW (f:Fil) (kind:Int) (at_:Int) (k1:Nat):Cel:=if k1<f.facts.length then if (bif decide (((f.facts.getD k1 default).kind)=kind)then decide (((f.facts.getD k1 default).at_)=at_)else false)=true then if ((f.facts.getD k1 default).n)=0 then ⟨true,0⟩else ⟨true,1⟩else JW f kind at_ (k1+1)else ⟨false,0⟩
termination_by f.facts.length-k1
def zAq (f:Fil) (kind:Int) (at_:Int):Cel:=JW f kind at_ 0
theorem zRk (f:Fil) (kind:Int) (at_:Int) (hF:FitFi f):GC Tryz.prog 23 [fiG f,iG kind,iG at_] (ceG (zAq f kind at_)):=by
 have g1:=hF.signs
 have g2:=hF.alters
 have g3:=hF.acts
 have g4:=hF.facts
 refine zA Tryz.func23 ?_
 refine gE [1,2,3,6] ?_
 refine gE [1,2,3,6,7] ?_
 refine zG (α:=Nat) (fun x=>x<=f.facts.length/\JW f kind at_ 0=JW f kind at_ x) (fun x=>[(7,iG x)]) (fun x=>[]) (fun x=>f.facts.length-x) 0 ⟨by (try simp only[]);omega,rfl⟩ ?_ (hp:=by simp[zC]<;>rfl)
 rintro k1 ⟨hi1,he⟩
 refine gE [1,2,3,6,7,12] ?_
 refine zB ?_ ?_<;>intro c1<;>try simp only[toN]at c1
 ·refine gE [1,2,3,6,7,32] ?_
  refine zE ?_ ?_<;>intro c2<;>try simp only[bb,toN]at c2
  ·refine gE [1,2,3,6,7,39] ?_
   refine zB ?_ ?_<;>intro c3<;>try simp only[toN]at c3
   ·refine gE [1,2,3,6,7] ?_
    refine gT ?_
    rw[zAq,he,JW,if_pos (by omega),if_pos (by (try simp only[bb,toN]);exact c2),if_pos c3];rfl
   ·refine gE [1,2,3,6,7] ?_
    refine gT ?_
    rw[zAq,he,JW,if_pos (by omega),if_pos (by (try simp only[bb,toN]);exact c2),if_neg c3];rfl
  ·refine gE [1,2,3,6,7] ?_
   refine zD (k1+1) ?_ (hp:=by simp[zC]<;>rfl)
   refine ⟨by (try simp only[]);omega,he.trans ?_⟩
   rw[JW,if_pos (by omega),iN (by (try simp only[bb,toN]);exact c2)]
   try rfl
 ·refine gE [6] ?_
  refine gT ?_
  rw[zAq,he,JW,if_neg (by omega)];rfl
def yG (f:Fil) (fc:Fct) (a5_1:List Fct) (k1:Nat) (a5_2:List Fct) (k2:Nat):Fil:=if k2<f.facts.length then if (bif decide (fc.at_<((f.facts.getD k2 default).at_))then true else (bif decide (((f.facts.getD k2 default).at_)=fc.at_)then decide (fc.kind<((f.facts.getD k2 default).kind))else false))=true then yG f fc a5_1 k1 (a5_2++ [(f.facts.getD k2 default)]) (k2+1)else yG f fc a5_1 k1 a5_2 (k2+1)else ⟨f.bill,f.signs,f.alters,f.acts,a5_2⟩
termination_by f.facts.length-k2
def YR (f:Fil) (fc:Fct) (a5_1:List Fct) (k1:Nat):Fil:=if k1<f.facts.length then if (bif decide (((f.facts.getD k1 default).at_)<fc.at_)then true else (bif decide (((f.facts.getD k1 default).at_)=fc.at_)then decide (((f.facts.getD k1 default).kind)<fc.kind)else false))=true then YR f fc (a5_1++ [(f.facts.getD k1 default)]) (k1+1)else YR f fc a5_1 (k1+1)else yG f fc a5_1 k1 (a5_1++ [fc]) 0
termination_by f.facts.length-k1
def jN (f:Fil) (fc:Fct):Fil:=if (zAq f fc.kind fc.at_).known=true then f else YR f fc [] 0
theorem zIa (f:Fil) (fc:Fct) (hF:FitFi f):GC Tryz.prog 8 [fiG f,fcG fc] (fiG (jN f fc)):=by
 have g1:=hF.signs
 have g2:=hF.alters
 have g3:=hF.acts
 have g4:=hF.facts
 refine zA Tryz.func8 ?_
 refine gE [2,3,4] ?_
 refine gR [.call (zRk f fc.kind fc.at_ hF)] [2,3,4,16] ?_
 refine zE ?_ ?_<;>intro c1<;>try simp only[bb,toN]at c1
 ·refine gE [2,3,4] ?_
  refine gT ?_
  rw[jN,if_pos (by (try simp only[bb,toN]);exact c1)];rfl
 ·refine gE [2,3,4,5] ?_
  refine gE [2,3,4,5,6] ?_
  refine yc 5 47 3 (default:Fct) fcC (by rfl) (by rfl) ?_
  refine zG (α:=List Fct×Nat) (fun x=>x.2<=f.facts.length/\YR f fc [] 0=YR f fc x.1 x.2/\x.1.length<=x.2) (fun x=>[(5,.sl 3 3 0 x.1.length),(6,iG x.2)]) (fun x=>[(3,some (.row 47 3 default fcC x.1 0))]) (fun x=>f.facts.length-x.2) ([],0) ⟨by (try simp only[]);omega,rfl,by first|omega|(simp;done)|(simp only[List.length_append,List.length_cons,List.length_nil,List.length_set,List.length_replicate];omega)⟩ ?_ (hp:=by simp[zC]<;>rfl)
  rintro ⟨a5_1,k1⟩ ⟨hi1,he,hl_a5_1⟩
  dsimp only at*
  refine gE [2,3,4,5,6,22] ?_
  refine zB ?_ ?_<;>intro c2<;>try simp only[toN]at c2
  ·refine gE [2,3,4,5,6,7] ?_
   refine gE [2,3,4,5,6,7,48] ?_
   refine zE ?_ ?_<;>intro c3<;>try simp only[bb,toN]at c3
   ·refine gU [.el default fcC ([(f.facts.getD k1 default)]:List Fct),.el default fcC (a5_1++ [(f.facts.getD k1 default)])] [2,3,4,5,6] ?_
    refine gE [2,3,4,5,6] ?_
    refine zD ((a5_1++ [(f.facts.getD k1 default)],k1+1)) ?_ (hp:=by simp[zC]<;>rfl) (hm:=by dsimp only;omega)
    refine ⟨by (try simp only[]);omega,he.trans ?_,by first|omega|(simp;done)|(simp only[List.length_append,List.length_cons,List.length_nil,List.length_set,List.length_replicate];omega)⟩
    rw[YR,if_pos (by omega),if_pos (by (try simp only[bb,toN]);exact c3)]
    try rfl
   ·refine gE [2,3,4,5,6] ?_
    refine zD ((a5_1,k1+1)) ?_ (hp:=by simp[zC]<;>rfl) (hm:=by dsimp only;omega)
    refine ⟨by (try simp only[]);omega,he.trans ?_,by first|omega|(simp;done)|(simp only[List.length_append,List.length_cons,List.length_nil,List.length_set,List.length_replicate];omega)⟩
    rw[YR,if_pos (by omega),iN (by (try simp only[bb,toN]);exact c3)]
    try rfl
  ·refine gU [.el default fcC ([fc]:List Fct),.el default fcC (a5_1++ [fc])] [2,3,4,5] ?_
   refine gE [2,3,4,5,8] ?_
   refine zG (α:=List Fct×Nat) (fun x=>x.2<=f.facts.length/\yG f fc a5_1 k1 (a5_1++ [fc]) 0=yG f fc a5_1 k1 x.1 x.2/\x.1.length<=x.2+(a5_1++ [fc]).length) (fun x=>[(5,.sl 5 3 0 x.1.length),(8,iG x.2)]) (fun x=>[(5,some (.row 47 3 default fcC x.1 0))]) (fun x=>f.facts.length-x.2) (a5_1++ [fc],0) ⟨by (try simp only[]);omega,rfl,by first|omega|(simp;done)|(simp only[List.length_append,List.length_cons,List.length_nil,List.length_set,List.length_replicate];omega)⟩ ?_ (hp:=by simp[zC]<;>rfl)
   rintro ⟨a5_2,k2⟩ ⟨hi2,he2,hl_a5_2⟩
   dsimp only at*
   try simp only[List.length_append,List.length_cons,List.length_nil]at hl_a5_2
   refine gE [2,3,4,5,8,61] ?_
   refine zB ?_ ?_<;>intro c4<;>try simp only[toN]at c4
   ·refine gE [2,3,4,5,8,9] ?_
    refine gE [2,3,4,5,8,9,87] ?_
    refine zE ?_ ?_<;>intro c5<;>try simp only[bb,toN]at c5
    ·refine gU [.el default fcC ([(f.facts.getD k2 default)]:List Fct),.el default fcC (a5_2++ [(f.facts.getD k2 default)])] [2,3,4,5,8] ?_
     refine gE [2,3,4,5,8] ?_
     refine zD ((a5_2++ [(f.facts.getD k2 default)],k2+1)) ?_ (hp:=by simp[zC]<;>rfl) (hm:=by dsimp only;omega)
     refine ⟨by (try simp only[]);omega,he2.trans ?_,by first|omega|(simp;done)|(simp only[List.length_append,List.length_cons,List.length_nil,List.length_set,List.length_replicate];omega)⟩
     rw[yG,if_pos (by omega),if_pos (by (try simp only[bb,toN]);exact c5)]
     try rfl
    ·refine gE [2,3,4,5,8] ?_
     refine zD ((a5_2,k2+1)) ?_ (hp:=by simp[zC]<;>rfl) (hm:=by dsimp only;omega)
     refine ⟨by (try simp only[]);omega,he2.trans ?_,by first|omega|(simp;done)|(simp only[List.length_append,List.length_cons,List.length_nil,List.length_set,List.length_replicate];omega)⟩
     rw[yG,if_pos (by omega),iN (by (try simp only[bb,toN]);exact c5)]
     try rfl
   ·refine gE [2,4] ?_
    refine gE [4] ?_
    refine gT ?_
    rw[jN,iN (by (try simp only[bb,toN]);exact c1),he,YR,if_neg (by omega),he2,yG,if_neg (by omega)];rfl
end Go.Gh
namespace Go.Proofs
open Go.Shelf
def Tryz.lays156_ren:Go.Shelf.Ren:=⟨fun|156=>39|165=>76|166=>38|169=>45|240=>75|241=>123|276=>122|277=>160|n=>n,fun|31=>22|9=>9|3=>3|4=>4|0=>0|20=>20|72=>109|76=>112|70=>106|37=>107|75=>111|127=>150|164=>200|5=>5|80=>120|n=>n,fun|n=>n⟩
theorem Tryz.lays156:Go.Proofs.Lays.n156 Tryz.prog Tryz.lays156_ren:= {
 mixed:=by kernel_rfl
 f156:=Tryz.func39.trans (congrArg some (by kernel_rfl))
 f165:=Tryz.func76.trans (congrArg some (by kernel_rfl))
 f166:=Tryz.func38.trans (congrArg some (by kernel_rfl))
 f169:=Tryz.func45.trans (congrArg some (by kernel_rfl))
 f240:=Tryz.func75.trans (congrArg some (by kernel_rfl))
 f241:=Tryz.func123.trans (congrArg some (by kernel_rfl))
 f276:=Tryz.func122.trans (congrArg some (by kernel_rfl))
 f277:=Tryz.func160.trans (congrArg some (by kernel_rfl))
 t0:=Tryz.underlying0
 a0:=Tryz.isAgg0
 z0:=Tryz.sizeOf0
 v0:=Tryz.zeroValue0
 t3:=Tryz.underlying3
 a3:=Tryz.isAgg3
 z3:=Tryz.sizeOf3
 v3:=Tryz.zeroValue3
 t4:=Tryz.underlying4
 a4:=Tryz.isAgg4
 z4:=Tryz.sizeOf4
 v4:=Tryz.zeroValue4
 t9:=Tryz.underlying9
 a9:=Tryz.isAgg9
 z9:=Tryz.sizeOf9
 v9:=Tryz.zeroValue9
 t20:=Tryz.underlying20
 a20:=Tryz.isAgg20
 z20:=Tryz.sizeOf20
 v20:=Tryz.zeroValue20
 t31:=Tryz.underlying22
 a31:=Tryz.isAgg22
 z31:=Tryz.sizeOf22
 v31:=Tryz.zeroValue22
 t37:=Tryz.underlying107
 a37:=Tryz.isAgg107
 z37:=Tryz.sizeOf107
 v37:=Tryz.zeroValue107
 t70:=Tryz.underlying106
 a70:=Tryz.isAgg106
 z70:=Tryz.sizeOf106
 v70:=Tryz.zeroValue106
 t72:=Tryz.underlying109
 a72:=Tryz.isAgg109
 z72:=Tryz.sizeOf109
 v72:=Tryz.zeroValue109
 t75:=Tryz.underlying111
 a75:=Tryz.isAgg111
 z75:=Tryz.sizeOf111
 v75:=Tryz.zeroValue111
 t76:=Tryz.underlying112
 a76:=Tryz.isAgg112
 z76:=Tryz.sizeOf112
 v76:=Tryz.zeroValue112
 t127:=Tryz.underlying150
 a127:=Tryz.isAgg150
 z127:=Tryz.sizeOf150
 v127:=Tryz.zeroValue150
 t164:=Tryz.underlying200
 a164:=Tryz.isAgg200
 z164:=Tryz.sizeOf200
 v164:=Tryz.zeroValue200}
theorem Tryz.Builder_Extra_156:Builder.Extra Tryz.prog Tryz.lays156_ren:= {
 sizeBuilder:=by kernel_rfl
 liesBuilder:=by kernel_rfl
 t5:=Tryz.underlying5
 a5:=Tryz.isAgg5
 z5:=Tryz.sizeOf5
 v5:=Tryz.zeroValue5
 infoByte:=by kernel_rfl
 cellsByte:=by kernel_rfl
 sizeByte:=by kernel_rfl
 neB5:=by decide}
open Go.RowKit in
theorem Tryz.strings_Join_none (a:Option Addr) (c:Nat) (sep:ByteArray) (w:World):
 Calls Tryz.prog 39 #[.slice a 0 c,.string sep] w fun e w'=>e= .returned (.string ⟨#[]⟩)∧w'=w:=Any.strings_Join_none Tryz.lays156 Tryz.Builder_Extra_156 a c sep w
open Go.RowKit in
theorem Tryz.strings_Join (bk o c:Nat) (xs:List ByteArray) (sep:ByteArray) (w:World) (hcells:∀(j:Nat) x,xs[j]? =some x→w.cell? ⟨bk,o+j,none⟩=some (.string x)) (hbk:bk<w.heap.size) (hN:xs.length≤140737488355328) (hcap:xs.length≤c) (hlen:(Lib.join (xs.map (·.data.toList)) sep.data.toList).length≤140737488355328):
 Calls Tryz.prog 39 #[.slice (some ⟨bk,o,none⟩) xs.length c,.string sep] w fun e w'=>e= .returned (.string ⟨(Lib.join (xs.map (·.data.toList)) sep.data.toList).toArray⟩)∧Below w.heap.size w w':=Any.strings_Join Tryz.lays156 Tryz.Builder_Extra_156 bk o c xs sep w hcells hbk hN hcap hlen
def Tryz.lays134_ren:Go.Shelf.Ren:=⟨fun|134=>263|129=>202|n=>n,fun|53=>245|3=>3|4=>4|46=>286|5=>5|9=>9|n=>n,fun|n=>n⟩
theorem Tryz.lays134:Go.Proofs.Lays.n134 Tryz.prog Tryz.lays134_ren:= {
 mixed:=by kernel_rfl
 f129:=Tryz.func202.trans (congrArg some (by kernel_rfl))
 f134:=Tryz.func263.trans (congrArg some (by kernel_rfl))
 t3:=Tryz.underlying3
 a3:=Tryz.isAgg3
 z3:=Tryz.sizeOf3
 v3:=Tryz.zeroValue3
 t4:=Tryz.underlying4
 a4:=Tryz.isAgg4
 z4:=Tryz.sizeOf4
 v4:=Tryz.zeroValue4
 t5:=Tryz.underlying5
 a5:=Tryz.isAgg5
 z5:=Tryz.sizeOf5
 v5:=Tryz.zeroValue5
 t9:=Tryz.underlying9
 a9:=Tryz.isAgg9
 z9:=Tryz.sizeOf9
 v9:=Tryz.zeroValue9
 t46:=Tryz.underlying286
 a46:=Tryz.isAgg286
 z46:=Tryz.sizeOf286
 v46:=Tryz.zeroValue286
 t53:=Tryz.underlying245
 a53:=Tryz.isAgg245
 z53:=Tryz.sizeOf245
 v53:=Tryz.zeroValue245}
theorem Tryz.bits_LeadingZeros64 (x:Int) (w:World) (h0:0≤x) (h1:x≤18446744073709551615):
 Calls Tryz.prog 263 #[.int .u64 x] w fun e w'=>e= .returned (.int .i64 (64-(Lib.bitLen x.toNat:Int)))∧w'=w:=Any.bits_LeadingZeros64 Tryz.lays134 x w h0 h1
def Tryz.laysM246_ren:Go.Shelf.Ren:=⟨fun|246=>124|283=>161|284=>162|285=>163|286=>164|129=>202|317=>201|318=>203|319=>204|320=>205|337=>234|338=>235|n=>n,fun|2=>2|3=>3|9=>9|4=>4|171=>244|0=>0|53=>245|37=>107|5=>5|173=>248|212=>283|51=>284|20=>20|213=>285|46=>286|232=>346|233=>347|n=>n,fun|17=>1|18=>5|19=>6|n=>n⟩
def Tryz.laysM243_ren:Go.Shelf.Ren:=⟨fun|243=>77|246=>124|283=>161|284=>162|285=>163|286=>164|129=>202|317=>201|318=>203|319=>204|320=>205|337=>234|338=>235|n=>n,fun|3=>3|9=>9|2=>2|4=>4|171=>244|0=>0|53=>245|37=>107|5=>5|173=>248|212=>283|51=>284|20=>20|213=>285|46=>286|232=>346|233=>347|n=>n,fun|17=>1|18=>5|19=>6|n=>n⟩
def Tryz.laysM171_ren:Go.Shelf.Ren:=⟨fun|171=>41|243=>77|246=>124|283=>161|284=>162|285=>163|286=>164|129=>202|317=>201|318=>203|319=>204|320=>205|337=>234|338=>235|n=>n,fun|3=>3|9=>9|2=>2|4=>4|171=>244|0=>0|53=>245|37=>107|5=>5|173=>248|212=>283|51=>284|20=>20|213=>285|46=>286|232=>346|233=>347|n=>n,fun|17=>1|18=>5|19=>6|n=>n⟩
theorem Tryz.laysM171:Go.Proofs.LaysM.n171 Tryz.prog Tryz.laysM171_ren:= {
 mixed:=by kernel_rfl
 f129:=Tryz.func202.trans (congrArg some (by kernel_rfl))
 f171:=Tryz.func41.trans (congrArg some (by kernel_rfl))
 f243:=Tryz.func77.trans (congrArg some (by kernel_rfl))
 f246:=Tryz.func124.trans (congrArg some (by kernel_rfl))
 f283:=Tryz.func161.trans (congrArg some (by kernel_rfl))
 f284:=Tryz.func162.trans (congrArg some (by kernel_rfl))
 f285:=Tryz.func163.trans (congrArg some (by kernel_rfl))
 f286:=Tryz.func164.trans (congrArg some (by kernel_rfl))
 f317:=Tryz.func201.trans (congrArg some (by kernel_rfl))
 f318:=Tryz.func203.trans (congrArg some (by kernel_rfl))
 f319:=Tryz.func204.trans (congrArg some (by kernel_rfl))
 f320:=Tryz.func205.trans (congrArg some (by kernel_rfl))
 f337:=Tryz.func234.trans (congrArg some (by kernel_rfl))
 f338:=Tryz.func235.trans (congrArg some (by kernel_rfl))
 t0:=Tryz.underlying0
 a0:=Tryz.isAgg0
 z0:=Tryz.sizeOf0
 v0:=Tryz.zeroValue0
 t2:=Tryz.underlying2
 a2:=Tryz.isAgg2
 z2:=Tryz.sizeOf2
 v2:=Tryz.zeroValue2
 t3:=Tryz.underlying3
 a3:=Tryz.isAgg3
 z3:=Tryz.sizeOf3
 v3:=Tryz.zeroValue3
 t4:=Tryz.underlying4
 a4:=Tryz.isAgg4
 z4:=Tryz.sizeOf4
 v4:=Tryz.zeroValue4
 t5:=Tryz.underlying5
 a5:=Tryz.isAgg5
 z5:=Tryz.sizeOf5
 v5:=Tryz.zeroValue5
 t9:=Tryz.underlying9
 a9:=Tryz.isAgg9
 z9:=Tryz.sizeOf9
 v9:=Tryz.zeroValue9
 t20:=Tryz.underlying20
 a20:=Tryz.isAgg20
 z20:=Tryz.sizeOf20
 v20:=Tryz.zeroValue20
 t37:=Tryz.underlying107
 a37:=Tryz.isAgg107
 z37:=Tryz.sizeOf107
 v37:=Tryz.zeroValue107
 t46:=Tryz.underlying286
 a46:=Tryz.isAgg286
 z46:=Tryz.sizeOf286
 v46:=Tryz.zeroValue286
 t51:=Tryz.underlying284
 a51:=Tryz.isAgg284
 z51:=Tryz.sizeOf284
 v51:=Tryz.zeroValue284
 t53:=Tryz.underlying245
 a53:=Tryz.isAgg245
 z53:=Tryz.sizeOf245
 v53:=Tryz.zeroValue245
 t171:=Tryz.underlying244
 a171:=Tryz.isAgg244
 z171:=Tryz.sizeOf244
 v171:=Tryz.zeroValue244
 t173:=Tryz.underlying248
 a173:=Tryz.isAgg248
 z173:=Tryz.sizeOf248
 v173:=Tryz.zeroValue248
 t212:=Tryz.underlying283
 a212:=Tryz.isAgg283
 z212:=Tryz.sizeOf283
 v212:=Tryz.zeroValue283
 t213:=Tryz.underlying285
 a213:=Tryz.isAgg285
 z213:=Tryz.sizeOf285
 t232:=Tryz.underlying346
 a232:=Tryz.isAgg346
 z232:=Tryz.sizeOf346
 v232:=Tryz.zeroValue346
 t233:=Tryz.underlying347
 a233:=Tryz.isAgg347
 z233:=Tryz.sizeOf347
 v233:=Tryz.zeroValue347
 g17:=by kernel_rfl
 g18:=by kernel_rfl
 g19:=by kernel_rfl
 i0:=by kernel_rfl
 i2:=by kernel_rfl
 i3:=by kernel_rfl
 i4:=by kernel_rfl
 i5:=by kernel_rfl
 i9:=by kernel_rfl
 i20:=by kernel_rfl
 i37:=by kernel_rfl
 i46:=by kernel_rfl
 i51:=by kernel_rfl
 i53:=by kernel_rfl
 i171:=by kernel_rfl
 i173:=by kernel_rfl
 i212:=by kernel_rfl
 i232:=by kernel_rfl
 i233:=by kernel_rfl
 m17:=by kernel_rfl
 m18:=by kernel_rfl
 m19:=by kernel_rfl}
open Go.RowKit Go.Sort Go.Lib in
theorem Tryz.strconv_Itoa (n:Int) (h0: -9223372036854775808≤n) (h1:n≤9223372036854775807) (w:World) (htab:Lib.TabIs Tryz.prog w "internal/strconv.uint64pow10" .u64 Lib.pow10Tab):
 Calls Tryz.prog 41 #[.int .i64 n] w fun e w'=>e= .returned (.string ⟨(Lib.itoa n).toArray⟩)∧∃k os,w'=grow (w.drewN k) os:=Any.strconv_Itoa Tryz.laysM171 n h0 h1 w htab
def Tryz.lays189_ren:Go.Shelf.Ren:=⟨fun|189=>180|125=>219|257=>218|128=>258|129=>202|294=>249|295=>250|296=>251|297=>252|298=>253|299=>254|216=>255|300=>256|301=>257|328=>277|329=>278|330=>279|331=>280|332=>281|215=>121|343=>284|n=>n,fun|28=>68|3=>3|46=>286|0=>0|51=>284|53=>245|4=>4|183=>336|182=>335|131=>121|5=>5|9=>9|218=>357|222=>361|228=>363|229=>163|n=>n,fun|n=>n⟩
theorem Tryz.lays189:Go.Proofs.Lays.n189 Tryz.prog Tryz.lays189_ren:= {
 mixed:=by kernel_rfl
 f125:=Tryz.func219.trans (congrArg some (by kernel_rfl))
 f128:=Tryz.func258.trans (congrArg some (by kernel_rfl))
 f129:=Tryz.func202.trans (congrArg some (by kernel_rfl))
 f189:=Tryz.func180.trans (congrArg some (by kernel_rfl))
 f215:=Tryz.func121.trans (congrArg some (by kernel_rfl))
 f216:=Tryz.func255.trans (congrArg some (by kernel_rfl))
 f257:=Tryz.func218.trans (congrArg some (by kernel_rfl))
 f294:=Tryz.func249.trans (congrArg some (by kernel_rfl))
 f295:=Tryz.func250.trans (congrArg some (by kernel_rfl))
 f296:=Tryz.func251.trans (congrArg some (by kernel_rfl))
 f297:=Tryz.func252.trans (congrArg some (by kernel_rfl))
 f298:=Tryz.func253.trans (congrArg some (by kernel_rfl))
 f299:=Tryz.func254.trans (congrArg some (by kernel_rfl))
 f300:=Tryz.func256.trans (congrArg some (by kernel_rfl))
 f301:=Tryz.func257.trans (congrArg some (by kernel_rfl))
 f328:=Tryz.func277.trans (congrArg some (by kernel_rfl))
 f329:=Tryz.func278.trans (congrArg some (by kernel_rfl))
 f330:=Tryz.func279.trans (congrArg some (by kernel_rfl))
 f331:=Tryz.func280.trans (congrArg some (by kernel_rfl))
 f332:=Tryz.func281.trans (congrArg some (by kernel_rfl))
 f343:=Tryz.func284.trans (congrArg some (by kernel_rfl))
 t0:=Tryz.underlying0
 a0:=Tryz.isAgg0
 z0:=Tryz.sizeOf0
 v0:=Tryz.zeroValue0
 t3:=Tryz.underlying3
 a3:=Tryz.isAgg3
 z3:=Tryz.sizeOf3
 v3:=Tryz.zeroValue3
 t4:=Tryz.underlying4
 a4:=Tryz.isAgg4
 z4:=Tryz.sizeOf4
 v4:=Tryz.zeroValue4
 t5:=Tryz.underlying5
 a5:=Tryz.isAgg5
 z5:=Tryz.sizeOf5
 v5:=Tryz.zeroValue5
 t9:=Tryz.underlying9
 a9:=Tryz.isAgg9
 z9:=Tryz.sizeOf9
 v9:=Tryz.zeroValue9
 t28:=Tryz.underlying68
 a28:=Tryz.isAgg68
 z28:=Tryz.sizeOf68
 v28:=Tryz.zeroValue68
 t46:=Tryz.underlying286
 a46:=Tryz.isAgg286
 z46:=Tryz.sizeOf286
 v46:=Tryz.zeroValue286
 t51:=Tryz.underlying284
 a51:=Tryz.isAgg284
 z51:=Tryz.sizeOf284
 v51:=Tryz.zeroValue284
 t53:=Tryz.underlying245
 a53:=Tryz.isAgg245
 z53:=Tryz.sizeOf245
 v53:=Tryz.zeroValue245
 t131:=Tryz.underlying121
 a131:=Tryz.isAgg121
 z131:=Tryz.sizeOf121
 v131:=Tryz.zeroValue121
 t182:=Tryz.underlying335
 a182:=Tryz.isAgg335
 z182:=Tryz.sizeOf335
 v182:=Tryz.zeroValue335
 t183:=Tryz.underlying336
 a183:=Tryz.isAgg336
 z183:=Tryz.sizeOf336
 v183:=Tryz.zeroValue336
 t218:=Tryz.underlying357
 a218:=Tryz.isAgg357
 z218:=Tryz.sizeOf357
 v218:=Tryz.zeroValue357
 t222:=Tryz.underlying361
 a222:=Tryz.isAgg361
 z222:=Tryz.sizeOf361
 v222:=Tryz.zeroValue361
 t228:=Tryz.underlying363
 a228:=Tryz.isAgg363
 z228:=Tryz.sizeOf363
 v228:=Tryz.zeroValue363
 t229:=Tryz.underlying163
 a229:=Tryz.isAgg163
 z229:=Tryz.sizeOf163
 v229:=Tryz.zeroValue163}
open Go.Sort Go.RowKit in
theorem Tryz.slices_Sort_int (blk off cap:Nat) (zs:List Int) (w:World) (hH:Holds (Value.int .i64) w blk off zs.toArray) (hblk:blk<w.heap.size) (hsz:zs.length<4611686018427387904):
 Calls Tryz.prog 180 #[.slice (some ⟨blk,off,none⟩) zs.length cap] w fun e w'=>
  e= .returned (.tuple #[])∧∃n os,w'=grow (putRow (Value.int .i64) (Sort.ahead w n) blk off (zs.mergeSort fun x y=>decide (x≤y)).toArray) os:=Any.slices_Sort_int Tryz.lays189 blk off cap zs w hH hblk hsz
def Tryz.lays264_ren:Go.Shelf.Ren:=⟨fun|264=>231|n=>n,fun|53=>245|46=>286|n=>n,fun|n=>n⟩
theorem Tryz.lays264:Go.Proofs.Lays.n264 Tryz.prog Tryz.lays264_ren:= {
 mixed:=by kernel_rfl
 f264:=Tryz.func231.trans (congrArg some (by kernel_rfl))
 t46:=Tryz.underlying286
 a46:=Tryz.isAgg286
 z46:=Tryz.sizeOf286
 v46:=Tryz.zeroValue286
 t53:=Tryz.underlying245
 a53:=Tryz.isAgg245
 z53:=Tryz.sizeOf245
 v53:=Tryz.zeroValue245}
open Go.RowKit Go.Lib in
theorem Tryz.bits_Mul64 (x y:Nat) (hx:x<18446744073709551616) (hy:y<18446744073709551616) (w:World):
 Calls Tryz.prog 231 #[.int .u64 x,.int .u64 y] w fun e w'=>e= .returned (.tuple #[.int .u64 ((x*y/18446744073709551616:Nat):Int),.int .u64 ((x*y % 18446744073709551616:Nat):Int)])∧w'=w:=Any.bits_Mul64 Tryz.lays264 x y hx hy w
def Tryz.laysNm220_ren:Go.Shelf.Ren:=⟨fun|20=>181|n=>n,fun|22=>68|3=>3|4=>4|0=>0|n=>n,fun|n=>n⟩
theorem Tryz.laysNm220:Go.Proofs.Lays2.n20 Tryz.prog Tryz.laysNm220_ren:= {
 mixed:=by kernel_rfl
 f20:=Tryz.func181.trans (congrArg some (by kernel_rfl))
 t0:=Tryz.underlying0
 a0:=Tryz.isAgg0
 z0:=Tryz.sizeOf0
 v0:=Tryz.zeroValue0
 t3:=Tryz.underlying3
 a3:=Tryz.isAgg3
 z3:=Tryz.sizeOf3
 v3:=Tryz.zeroValue3
 t4:=Tryz.underlying4
 a4:=Tryz.isAgg4
 z4:=Tryz.sizeOf4
 v4:=Tryz.zeroValue4
 t22:=Tryz.underlying68
 a22:=Tryz.isAgg68
 z22:=Tryz.sizeOf68
 v22:=Tryz.zeroValue68
 i3:=by kernel_rfl}
open Go.RowKit Go.Lib Go.Sort in
theorem Tryz.slices_Compact_int (blk off cap:Nat) (zs:List Int) (w:World) (hH:Holds (Value.int .i64) w blk off zs.toArray) (hsz:zs.length≤9223372036854775807) (hcap:zs.length≤cap):
 Calls Tryz.prog 181 #[.slice (some ⟨blk,off,none⟩) zs.length cap] w fun e w'=>e= .returned (.slice (some ⟨blk,off,none⟩) (Lib.compact zs).length cap)∧∃q,w'=putRow (Value.int .i64) (Sort.ahead w q) blk off (Lib.compact zs++List.replicate (zs.length-(Lib.compact zs).length) 0).toArray:=Any.slices_Compact_int Tryz.laysNm220 blk off cap zs w hH hsz hcap
open Go.RowKit Go.Lib Go.Sort in
theorem Tryz.slices_Compact_int_empty (a:Option Addr) (cap:Nat) (w:World):
 Calls Tryz.prog 181 #[.slice a 0 cap] w fun e w'=>e= .returned (.slice a 0 cap)∧w'=w:=Any.slices_Compact_int_empty Tryz.laysNm220 a cap w
open Go.RowKit Go.Sort in
theorem Tryz.slices_Sort_int_none (p:Option Addr) (cap:Nat) (w:World):
 Calls Tryz.prog 180 #[.slice p 0 cap] w fun e w'=>e= .returned (.tuple #[])∧w'=w:=Any.slices_Sort_int_none Tryz.lays189 p cap w
end Go.Proofs
namespace Go.Proofs.YtlnnombljiecmaaGreatDoor.Dv
theorem too_great (U1 U0 q r v1 v0 Y:Int) (hY:Y=v1*4294967296+v0) (hU:U1=q*v1+r)
 (hYp:0<Y)
 (h:r*4294967296+U0<q*v0):(U1*4294967296+U0)/Y<q:=by
 apply Int.ediv_lt_of_lt_mul hYp
 subst hY;subst hU
 rw[Int.mul_add]
 have e:q*(v1*4294967296)=q*v1*4294967296:=by rw[Int.mul_assoc]
 rw[e]
 omega
theorem fits (U1 U0 q r v1 v0 Y:Int) (hY:Y=v1*4294967296+v0) (hU:U1=q*v1+r)
 (hYp:0<Y)
 (h:q*v0≤r*4294967296+U0):q≤(U1*4294967296+U0)/Y:=by
 apply Int.le_ediv_of_mul_le hYp
 subst hY;subst hU
 rw[Int.mul_add]
 have e:q*(v1*4294967296)=q*v1*4294967296:=by rw[Int.mul_assoc]
 rw[e]
 omega
theorem digit_lt (U1 U0 Y:Int) (h1:U1<Y) (h0:U0<4294967296) (hYp:0<Y):(U1*4294967296+U0)/Y<4294967296:=by
 apply Int.ediv_lt_of_lt_mul hYp
 omega
theorem first_ge (U1 U0 v1 v0 Y:Int) (hY:Y=v1*4294967296+v0) (hv1:0<v1) (hv0:0≤v0) (hU1:0≤U1) (hU0:U0<4294967296):
 (U1*4294967296+U0)/Y≤U1/v1:=by
 have hYp:0<Y:=by omega
 have hq:0≤U1/v1:=Int.ediv_nonneg hU1 (by omega)
 apply Int.le_of_lt_add_one
 apply Int.ediv_lt_of_lt_mul hYp
 have hm:=Int.mul_ediv_add_emod U1 v1
 have hr:=Int.emod_lt_of_pos U1 hv1
 generalize U1/v1=q at*
 generalize U1 % v1=r at*
 subst hY
 rw[Int.mul_add,←Int.mul_assoc]
 have hp:0≤(q+1)*v0:=Int.mul_nonneg (by omega) hv0
 have e:(q+1)*v1=v1*q+v1:=by rw[Int.add_mul,Int.mul_comm q];omega
 rw[e]
 omega
theorem first_le (U1 v1 v0 Y:Int) (hY:Y=v1*4294967296+v0) (hv1:2147483648≤v1) (hv0:v0<4294967296) (hU1:U1<Y):
 U1/v1≤4294967297:=by
 apply Int.le_of_lt_add_one
 apply Int.ediv_lt_of_lt_mul (by omega)
 omega
theorem down (U1 q r v1:Int) (hU:U1=q*v1+r):U1=(q-1)*v1+(r+v1):=by
 rw[Int.sub_mul];omega
theorem at_break (U1 U0 q r v1 v0 Y:Int) (hY:Y=v1*4294967296+v0) (hU:U1=q*v1+r) (hYp:0<Y)
 (hq:q≤4294967296) (hv0:0≤v0) (hv:v0<4294967296) (hr:4294967296≤r) (hU0:0≤U0):q≤(U1*4294967296+U0)/Y:=by
 refine fits U1 U0 q r v1 v0 Y hY hU hYp ?_
 have h1:q*v0≤4294967296*v0:=Int.mul_le_mul_of_nonneg_right hq hv0
 omega
theorem or_disj (a b s:Nat) (hb:b<2^s):(a*2^s)|||b=a*2^s+b:=by
 rw[Nat.mul_comm,Nat.two_pow_add_eq_or_of_lt hb]
theorem len_spec (y:Nat) (h0:0<y) (h1:y<18446744073709551616):
 1≤Lib.bitLen y∧Lib.bitLen y≤64∧2^(Lib.bitLen y-1)≤y∧y<2^Lib.bitLen y:=by
 obtain ⟨a,b,c⟩:=Lib.bitLenAux_bounds 64 y (by simpa using h1) (by omega)
 refine ⟨a,?_,b,c⟩
 show Lib.bitLen y≤64
 have:¬65≤Lib.bitLenAux 64 y:=by
  intro h
  have h2:2^64≤2^(Lib.bitLenAux 64 y-1):=Nat.pow_le_pow_right (by omega) (by omega)
  have h3:(2:Nat)^64=18446744073709551616:=by decide
  omega
 show Lib.bitLenAux 64 y≤64
 omega
theorem norm (y:Nat) (h0:0<y) (h1:y<18446744073709551616) (s:Nat) (hs:s=64-Lib.bitLen y):
 s<64∧9223372036854775808≤y*2^s∧y*2^s<18446744073709551616∧2^s*2^(64-s)=18446744073709551616:=by
 obtain ⟨a,b,c,d⟩:=len_spec y h0 h1
 have e:2^s*2^(64-s)=18446744073709551616:=by
  rw[←Nat.pow_add,show s+(64-s)=64 by omega]
 refine ⟨by omega,?_,?_,e⟩
 ·have h2:2^(Lib.bitLen y-1)*2^s≤y*2^s:=Nat.mul_le_mul_right _ c
  rw[←Nat.pow_add,show Lib.bitLen y-1+s=63 by omega]at h2
  exact h2
 ·have h2:y*2^s<2^Lib.bitLen y*2^s:=Nat.mul_lt_mul_of_pos_right d (Nat.two_pow_pos s)
  rw[←Nat.pow_add,show Lib.bitLen y+s=64 by omega]at h2
  exact h2
theorem halves (hi lo y P C:Nat) (hP:P*C=18446744073709551616) (hC:0<C) (hPp:0<P) (hhi:hi<y) (hlo:lo<18446744073709551616):
 lo/C<P∧hi*P+lo/C<y*P∧(hi*P+lo/C)*18446744073709551616+lo*P % 18446744073709551616=(hi*18446744073709551616+lo)*P:=by
 have a:lo/C<P:=by rw[Nat.div_lt_iff_lt_mul hC,hP];exact hlo
 refine ⟨a,?_,?_⟩
 ·have:(hi+1)*P≤y*P:=Nat.mul_le_mul_right _ hhi
  rw[Nat.add_mul]at this;omega
 ·have h1:=Nat.div_add_mod lo C
  have h2:=Nat.mod_lt lo hC
  have h3:lo*P=(lo/C)*18446744073709551616+(lo % C)*P:=by
   conv=>lhs;rw[←h1]
   rw[Nat.add_mul,←hP]
   congr 1
   rw[Nat.mul_comm C,Nat.mul_assoc,Nat.mul_comm C]
  have h4:(lo % C)*P<18446744073709551616:=by
   rw[←hP,Nat.mul_comm P];exact Nat.mul_lt_mul_of_pos_right h2 hPp
  rw[h3,Nat.mul_comm (lo/C) 18446744073709551616,Nat.mul_add_mod,Nat.mod_eq_of_lt h4,Nat.add_mul,Nat.add_mul]
  have h5:hi*P*18446744073709551616=hi*18446744073709551616*P:=by rw[Nat.mul_assoc,Nat.mul_comm P,Nat.mul_assoc]
  rw[h5,h3];omega
theorem together' (B N y P Y U1 U01 U00 q1 q0 r1 r0:Nat) (hY:Y=y*P) (hP:0<P) (hy:0<y)
 (hN:N*P=(U1*B+U01)*B+U00)
 (e1:U1*B+U01=Y*q1+r1) (e0:r1*B+U00=Y*q0+r0) (hr0:r0<Y):
 q1*B+q0=N/y∧r0/P=N % y:=by
 have h:N*P=Y*(q1*B+q0)+r0:=by
  rw[hN,e1,Nat.add_mul,Nat.add_assoc,e0,Nat.mul_add,Nat.mul_assoc,Nat.add_assoc]
 have hd:N/y=(N*P)/(y*P):=(Nat.mul_div_mul_right N y hP).symm
 have hm:(N*P) % (y*P)=(N % y)*P:=Nat.mul_mod_mul_right P N y
 have hq:(N*P)/Y=q1*B+q0:=by
  rw[h,Nat.mul_add_div (by rw[hY];exact Nat.mul_pos hy hP),Nat.div_eq_of_lt hr0,Nat.add_zero]
 have hr:(N*P) % Y=r0:=by rw[h,Nat.mul_add_mod,Nat.mod_eq_of_lt hr0]
 refine ⟨by rw[hd,←hY,hq],?_⟩
 rw[←hY,hr]at hm
 rw[hm,Nat.mul_div_cancel _ hP]
end Go.Proofs.YtlnnombljiecmaaGreatDoor.Dv
