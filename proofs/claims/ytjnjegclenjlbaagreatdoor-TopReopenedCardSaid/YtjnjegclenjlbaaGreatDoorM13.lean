/- Walks by the logic of calls, and plain laws (several texts in one). -/
import Derived.Test.YtjnjegclenjlbaaGreatDoorM1
import Derived.Test.YtjnjegclenjlbaaGreatDoorGh2
import Derived.Test.YtjnjegclenjlbaaGreatDoorGh4
import Derived.Test.YtjnjegclenjlbaaGreatDoorM3
namespace Go.Gh
open Go Go.Proofs
set_option maxRecDepth 1000000
set_option maxHeartbeats 2000000
set_option linter.unusedSimpArgs false
set_option linter.unusedVariables false
set_option linter.unnecessarySimpa false
open Go.RowKit
structure Tk where
 kind:Int
 text:ByteArray
 n:Int
 pos:Int
deriving DecidableEq
instance :Inhabited Tk:=⟨⟨0,⟨#[]⟩,0,0⟩⟩
def tkC (x:Tk):List D:=[.sc (.int .i64 x.kind),.sc (.string x.text),.sc (.int .i64 x.n),.sc (.int .i64 x.pos)]
abbrev tkG (x:Tk):G:= .agg [iG x.kind,sG x.text,iG x.n,iG x.pos]
def blank (c:Int):Bool:=decide (c=32)||(decide (c=9)||decide (c=10))
def inner (c:Int):Bool:=letter c||digit c||decide (c=95)
def span (p:Int→Bool) (s:ByteArray) (i:Nat):Int:=if i<s.size then if p (byteAt s i)then span p s (i+1)else i else i
termination_by s.size-i
def numVal (s:ByteArray) (i:Nat) (n:Int):Int:=if i<s.size then numVal s (i+1) (10*n+(byteAt s i-48))else n
termination_by s.size-i
def numBad (s:ByteArray):Bool:=decide (s=⟨#[]⟩)|| !decide (span digit s 0=s.size)||decide (byteAt s 0=48)&& !decide (s=⟨#[48]⟩)||decide ((13:Int)<s.size)
def numV (s:ByteArray):Int:=if numBad s then 0 else if 1099511627776<numVal s 0 0 then 0 else numVal s 0 0
def numOk (s:ByteArray):Bool:= !numBad s&& !decide (1099511627776<numVal s 0 0)
theorem span_digit (s:ByteArray):∀(k i:Nat),s.size-i=k→span digit s i=s.size→∀j,i≤j→j<s.size→digit (byteAt s j)=true:=by
 intro k
 induction k with
 |zero=>intro i h _ j h1 h2;omega
 |succ k ih=>
  intro i h hs j h1 h2
  rw[span,if_pos (by omega)]at hs
  split at hs
  ·rename_i hd
   by_cases e:j=i
   ·subst e;exact hd
   ·exact ih (i+1) (by omega) hs j (by omega) h2
  ·omega
theorem numBad_at {s:ByteArray} (h:numBad s=false):span digit s 0=s.size∧s.size≤13:=by
 simp[numBad]at h
 exact ⟨h.1.1.2,by omega⟩
theorem digit_of {s:ByteArray} (h:numBad s=false) {i:Nat} (hi:i<s.size):48≤byteAt s i∧byteAt s i≤57:=by
 have:=span_digit s _ 0 rfl (numBad_at h).1 i (Nat.zero_le _) hi
 simpa [digit]using this
theorem pow_le {s:ByteArray} (h:numBad s=false) {i:Nat} (hi:i≤s.size):(10:Int)^i≤10^13:=by
 have:=Nat.pow_le_pow_right (n:=10) (by omega) (show i≤13 by have:=(numBad_at h).2;omega)
 exact_mod_cast this
def nameOk (s:ByteArray):Bool:= !decide (s=⟨#[]⟩)&&letter (byteAt s 0)&&decide ((s.size:Int)≤20)&&decide (span inner s 0=s.size)
theorem span_ge (p:Int→Bool) (s:ByteArray):∀(k i:Nat),s.size-i=k→(i:Int)≤span p s i∧(i≤s.size→span p s i≤s.size):=by
 intro k
 induction k with
 |zero=>intro i h;rw[span,if_neg (by omega)];exact ⟨Int.le_refl _,fun h=>by omega⟩
 |succ k ih=>
  intro i h
  rw[span,if_pos (by omega)]
  split
  ·have:=ih (i+1) (by omega)
   exact ⟨by omega,fun _=>this.2 (by omega)⟩
  ·exact ⟨Int.le_refl _,fun h=>by omega⟩
theorem span_in (p:Int→Bool) (s:ByteArray):0≤span p s 0∧span p s 0≤s.size:=by
 have:=span_ge p s _ 0 rfl
 exact ⟨this.1,this.2 (Nat.zero_le _)⟩
def sgnL:List Int:=[40,41,44,59,58,61,60,43,45,42,46,123,125]
theorem sgn_cell {k:Nat} (h:k<13):([cG 40,cG 41,cG 44,cG 59,cG 58,cG 61,cG 60,cG 43,cG 45,cG 42,cG 46,cG 123,cG 125]:List G)[k]? =some (cG (sgnL.getD k 0)):=by
 rcases k with _|_|_|_|_|_|_|_|_|_|_|_|_|k<;>first|rfl|omega
theorem sgn_at {k:Nat} (h:k<13):sgnL.drop k=sgnL.getD k 0::sgnL.drop (k+1):=by
 rw[List.getD_eq_getElem?_getD,List.getElem?_eq_getElem (show k<sgnL.length from h)];exact List.drop_eq_getElem_cons h
theorem sgn_skip {k:Nat} (h:k<13) {c:Int} (hc:¬c=sgnL.getD k 0):(sgnL.drop k).contains c=(sgnL.drop (k+1)).contains c:=by
 rw[sgn_at h,List.contains_cons,beq_eq_false_iff_ne.2 hc];rfl
theorem sgn_hit {k:Nat} (h:k<13) {c:Int} (hc:c=sgnL.getD k 0):(sgnL.drop k).contains c=true:=by
 rw[sgn_at h,List.contains_cons,←hc,beq_self_eq_true];rfl
def tkn (s:ByteArray) (n:Int):ByteArray:=s.extract 0 n.toNat
theorem tkn_size (s:ByteArray) (n:Int):(tkn s n).size≤s.size:=by unfold tkn;rw[ByteArray.size_extract];omega
def nxT (s:ByteArray):Tk×Int×Int:=
 if letter (byteAt s 0)=true then
  if nameOk (tkn s (span inner s 0))=true then (⟨0,tkn s (span inner s 0),0,0⟩,(tkn s (span inner s 0)).size,0)else (⟨0,⟨#[]⟩,0,0⟩,0,3)
 else if digit (byteAt s 0)=true then
  if numOk (tkn s (span digit s 0))=true then (⟨1,tkn s (span digit s 0),numV (tkn s (span digit s 0)),0⟩,(tkn s (span digit s 0)).size,0)else (⟨0,⟨#[]⟩,0,0⟩,0,3)
 else if (sgnL.drop 0).contains (byteAt s 0)=true then (⟨3,tkn s 1,0,0⟩,1,0)else (⟨0,⟨#[]⟩,0,0⟩,0,20)
def scF (s:ByteArray):Nat→Int→List Tk→List Tk×Int×Int
 |0,_,out=>(out,0,0)
 |k+1,at_,out=>
  if at_+span blank (s.extract at_.toNat s.size) 0=s.size then (out,0,0)
  else if (nxT (s.extract (at_+span blank (s.extract at_.toNat s.size) 0).toNat s.size)).2.2=0 then
   scF s k (at_+span blank (s.extract at_.toNat s.size) 0+(nxT (s.extract (at_+span blank (s.extract at_.toNat s.size) 0).toNat s.size)).2.1)
    (out++ [⟨(nxT (s.extract (at_+span blank (s.extract at_.toNat s.size) 0).toNat s.size)).1.kind,(nxT (s.extract (at_+span blank (s.extract at_.toNat s.size) 0).toNat s.size)).1.text,(nxT (s.extract (at_+span blank (s.extract at_.toNat s.size) 0).toNat s.size)).1.n,at_+span blank (s.extract at_.toNat s.size) 0⟩])
  else ([],at_+span blank (s.extract at_.toNat s.size) 0,(nxT (s.extract (at_+span blank (s.extract at_.toNat s.size) 0).toNat s.size)).2.2)
def noHash (s:ByteArray):Bool:= !(decide (span blank s 0<s.size)&&decide (byteAt s (span blank s 0).toNat=35))
def scOk (s:ByteArray):Nat→Int→Bool
 |0,_=>false
 |k+1,at_=>noHash (s.extract at_.toNat s.size)&&(decide (at_+span blank (s.extract at_.toNat s.size) 0=s.size)|| !decide (byteAt (s.extract (at_+span blank (s.extract at_.toNat s.size) 0).toNat s.size) 0=34)&&scOk s k (at_+span blank (s.extract at_.toNat s.size) 0+(nxT (s.extract (at_+span blank (s.extract at_.toNat s.size) 0).toNat s.size)).2.1))
theorem blank_ok (c:Int):GC Tryz.prog 108 [cG c] (bG (blank c)):=by
 refine gc_of_gk Tryz.func108 ?_
 refine gk_region env false [] [0,2] ?_
 refine gk_region env false [] [2] ?_
 refine gk_ret env ?_
 simp[blank,tupG,Bool.or_assoc]
theorem letter_ok (c:Int):GC Tryz.prog 109 [cG c] (bG (letter c)):=by
 refine gc_of_gk Tryz.func109 ?_
 refine gk_region env false [] [0,2] ?_
 refine gk_region env false [] [2] ?_
 refine gk_ret env ?_
 simp[letter,tupG,Bool.or_assoc]
theorem digit_ok (c:Int):GC Tryz.prog 112 [cG c] (bG (digit c)):=by
 refine gc_of_gk Tryz.func112 ?_
 refine gk_region env false [] [0,2] ?_
 refine gk_region env false [] [2] ?_
 refine gk_ret env ?_
 simp[digit,tupG]
theorem inner_ok (c:Int):GC Tryz.prog 110 [cG c] (bG (inner c)):=by
 refine gc_of_gk Tryz.func110 ?_
 refine gk_region env false [] [0,2] ?_
 refine gk_region env false [.call (letter_ok c),.call (digit_ok c)] [2] ?_
 refine gk_ret env ?_
 simp[inner,tupG]
theorem spanB_ok (s:ByteArray) (hs:s.size≤9223372036854775807):GC Tryz.prog 107 [sG s,fG 108] (iG (span blank s 0)):=by
 refine gc_of_gk Tryz.func107 ?_
 refine gk_region env false [] [0,1,4] ?_
 refine gk_region env false [] [0,1,4,5] ?_
 refine gk_loop (α:=Nat) (fun i=>i≤s.size∧span blank s 0=span blank s i) (fun i=>[(5,iG i)]) (fun _=>[]) (fun i=>s.size-i) 0 ⟨by omega,rfl⟩ ?_
 rintro i ⟨hi,he⟩
 refine gk_region env false [.call (blank_ok (byteAt s i))] [0,1,4,5,16] ?_
 refine gk_if (fun c1=> ?_) (fun c1=> ?_)
 ·try simp only[bb,toN]at c1
  refine gk_region env false [] [0,1,4,5] ?_
  refine gk_round (i+1) ?_
  refine ⟨by omega,he.trans ?_⟩
  rw[span,if_pos (by omega),if_pos c1.2]
 ·try simp only[bb,toN]at c1
  refine gk_region env false [] [4] ?_
  refine gk_ret env ?_
  rw[he,span]
  rcases c1 with h|h
  ·rw[if_neg (by omega)];rfl
  ·rw[h];simp[tupG]
theorem spanI_ok (s:ByteArray) (hs:s.size≤9223372036854775807):GC Tryz.prog 107 [sG s,fG 110] (iG (span inner s 0)):=by
 refine gc_of_gk Tryz.func107 ?_
 refine gk_region env false [] [0,1,4] ?_
 refine gk_region env false [] [0,1,4,5] ?_
 refine gk_loop (α:=Nat) (fun i=>i≤s.size∧span inner s 0=span inner s i) (fun i=>[(5,iG i)]) (fun _=>[]) (fun i=>s.size-i) 0 ⟨by omega,rfl⟩ ?_
 rintro i ⟨hi,he⟩
 refine gk_region env false [.call (inner_ok (byteAt s i))] [0,1,4,5,16] ?_
 refine gk_if (fun c1=> ?_) (fun c1=> ?_)
 ·try simp only[bb,toN]at c1
  refine gk_region env false [] [0,1,4,5] ?_
  refine gk_round (i+1) ?_
  refine ⟨by omega,he.trans ?_⟩
  rw[span,if_pos (by omega),if_pos c1.2]
 ·try simp only[bb,toN]at c1
  refine gk_region env false [] [4] ?_
  refine gk_ret env ?_
  rw[he,span]
  rcases c1 with h|h
  ·rw[if_neg (by omega)];rfl
  ·rw[h];simp[tupG]
theorem spanD_ok (s:ByteArray) (hs:s.size≤9223372036854775807):GC Tryz.prog 107 [sG s,fG 112] (iG (span digit s 0)):=by
 refine gc_of_gk Tryz.func107 ?_
 refine gk_region env false [] [0,1,4] ?_
 refine gk_region env false [] [0,1,4,5] ?_
 refine gk_loop (α:=Nat) (fun i=>i≤s.size∧span digit s 0=span digit s i) (fun i=>[(5,iG i)]) (fun _=>[]) (fun i=>s.size-i) 0 ⟨by omega,rfl⟩ ?_
 rintro i ⟨hi,he⟩
 refine gk_region env false [.call (digit_ok (byteAt s i))] [0,1,4,5,16] ?_
 refine gk_if (fun c1=> ?_) (fun c1=> ?_)
 ·try simp only[bb,toN]at c1
  refine gk_region env false [] [0,1,4,5] ?_
  refine gk_round (i+1) ?_
  refine ⟨by omega,he.trans ?_⟩
  rw[span,if_pos (by omega),if_pos c1.2]
 ·try simp only[bb,toN]at c1
  refine gk_region env false [] [4] ?_
  refine gk_ret env ?_
  rw[he,span]
  rcases c1 with h|h
  ·rw[if_neg (by omega)];rfl
  ·rw[h];simp[tupG]
theorem name_ok (s:ByteArray) (hs:s.size≤9223372036854775807):GC Tryz.prog 111 [sG s] (bG (nameOk s)):=by
 refine gc_of_gk Tryz.func111 ?_
 refine gk_region env false [] [0,2] ?_
 refine gk_region env false [.call (letter_ok _),.call (spanI_ok s hs)] [2] ?_
 refine gk_ret env ?_
 simp[nameOk,tupG]
theorem number_ok (s:ByteArray) (hs:s.size≤9223372036854775807):GC Tryz.prog 113 [sG s] (.tup [iG (numV s),bG (numOk s)]):=by
 obtain ⟨V,hV⟩:∃V,V=numV s:=⟨_,rfl⟩
 obtain ⟨O,hO⟩:∃O,O=numOk s:=⟨_,rfl⟩
 rw[←hV,←hO]
 unfold numV at hV
 unfold numOk at hO
 refine gc_of_gk Tryz.func113 ?_
 refine gk_region env false [] [0,2,3] ?_
 refine gk_region env false [.call (spanD_ok s hs)] [0,2,3,28] ?_
 refine gk_if (fun c1=> ?_) (fun c1=> ?_)
 ·try simp only[bb,toN]at c1
  refine gk_region env false [] [0,2,3] ?_
  refine gk_ret env ?_
  rw[hV,hO,show numBad s=true by simpa [numBad]using c1];rfl
 ·try simp only[bb,toN]at c1
  refine gk_region env false [] [0,2,3,4] ?_
  refine gk_region env false [] [0,2,3,4,30,31] ?_
  refine gk_loop (α:=Nat×Int) (fun x=>x.1≤s.size∧numVal s 0 0=numVal s x.1 x.2∧0≤x.2∧x.2+1≤10^x.1) (fun x=>[(31,iG x.1),(4,iG x.2)]) (fun _=>[]) (fun x=>s.size-x.1) (0,0) ⟨by simp,rfl,by simp,by simp⟩ ?_
  rintro ⟨i,n⟩ ⟨hi,hn,h0,h1⟩
  dsimp only at*
  have hb:numBad s=false:=by simpa [numBad,and_assoc,Decidable.imp_iff_not_or]using c1
  have hp:(10:Int)^i≤10^13:=pow_le hb hi
  have hdg:=fun h=>digit_of hb (i:=i) h
  refine gk_region env false [] [0,2,3,4,30,31,32] ?_
  refine gk_ifd (fun c2=> ?_) (fun c2=> ?_)
  ·try simp only[toN]at c2
   refine gk_region env false [] [0,2,3,4,5,30,31] ?_
   have hd:=hdg (by omega)
   refine gk_region env false [] [0,2,3,4,30,31] ?_
   refine gk_region env false [] [0,2,3,4,30,31] ?_
   refine gk_round ((i+1,10*n+(byteAt s i-48))) ?_
   refine ⟨by simp only;omega,?_,?_,?_⟩
   ·rw[hn,numVal,if_pos (by omega)]
   ·have:=hdg (by omega);dsimp only;omega
   ·have:=hdg (by omega);dsimp only;rw[Int.pow_succ];omega
  ·try simp only[toN]at c2
   refine gk_region env false [] [2,3,4,44] ?_
   refine gk_ifd (fun c3=> ?_) (fun c3=> ?_)
   ·try simp only[toN]at c3
    refine gk_region env false [] [2,3,4] ?_
    refine gk_ret env ?_
    have e:numVal s i n=n:=by rw[numVal,if_neg (by omega)]
    simp[hV,hO,hb,hn,e,c3,tupG]
   ·try simp only[toN]at c3
    refine gk_region env false [] [2,3] ?_
    refine gk_ret env ?_
    have e:numVal s i n=n:=by rw[numVal,if_neg (by omega)]
    simp[hV,hO,hb,hn,e,c3,tupG]
theorem gap_ok (s:ByteArray) (hs:s.size≤9223372036854775807) (hg:noHash s=true):GC Tryz.prog 68 [sG s] (iG (span blank s 0)):=by
 have h1:=span_in blank s
 refine gc_of_gk Tryz.func68 ?_
 refine gk_region env false [] [0,2] ?_
 refine gk_region env false [.call (spanB_ok s hs)] [0,2,3] ?_
 refine gk_loop (α:=Unit) (fun _=>True) (fun _=>[(3,iG (span blank s 0))]) (fun _=>[]) (fun _=>0) () trivial ?_ (hp:=by (try simp only[AllP,Nat.zero_add]);repeat' first|exact trivial|exact rfl|exact EntL.refl _|exact BEntL.refl _|omega|apply And.intro|(simp;done)|(simp[*];done))
 rintro ⟨⟩-
 refine gk_region env false [] [0,2,3,15] ?_ (hp:=(by simp only[AllP,bb,toN,loI,hiI];repeat' first|exact trivial|exact EntL.refl _|exact BEntL.refl _|exact rfl|omega|apply And.intro|intro _))
 refine gk_if (fun c1=> ?_) (fun c1=> ?_)
 ·try simp only[bb,toN]at c1
  refine gk_loop (α:=Unit) (fun _=>True) (fun _=>[(3,iG (span blank s 0))]) (fun _=>[]) (fun _=>0) () trivial ?_ (hp:=by (try simp only[AllP,Nat.zero_add]);repeat' first|exact trivial|exact rfl|exact EntL.refl _|exact BEntL.refl _|omega|apply And.intro|(simp;done)|(simp[*];done))
  rintro ⟨⟩-
  unfold noHash at hg
  simp only[bb]at hg
  rcases hg with h|h
  ·omega
  ·exact absurd c1.2 h
 ·try simp only[bb,toN]at c1
  refine gk_region env false [] [2] ?_
  refine gk_ret env ?_
  rfl
theorem lnext_ok (s:ByteArray) (hs:s.size≤9223372036854775807) (h0:0<s.size) (hq:¬byteAt s 0=34):GC Tryz.prog 69 [sG s] (.tup [tkG (nxT s).1,iG (nxT s).2.1,iG (nxT s).2.2]):=by
 have h2:=span_in inner s
 have h3:=span_in digit s
 have h4:=tkn_size s (span inner s 0)
 have h5:=tkn_size s (span digit s 0)
 have e1:s.extract 0 (span inner s 0).toNat=tkn s (span inner s 0):=rfl
 have e2:s.extract 0 (span digit s 0).toNat=tkn s (span digit s 0):=rfl
 have e3:s.extract 0 1=tkn s 1:=rfl
 refine gc_of_gk Tryz.func69 ?_
 refine gk_region env false [] [0,2,3,4] ?_
 refine gk_region env false [.call (letter_ok (byteAt s 0))] [0,2,3,4,13] ?_
 refine gk_if (fun c1=> ?_) (fun c1=> ?_)
 ·try simp only[bb,toN]at c1
  refine gk_region env false [.call (spanI_ok s hs)] [0,2,3,4,5] ?_ (hp:=(by simp only[AllP,bb,toN,loI,hiI];repeat' first|exact trivial|exact EntL.refl _|exact BEntL.refl _|exact rfl|omega|apply And.intro|intro _))
  refine gk_region env false [.call (name_ok (tkn s (span inner s 0)) (by omega))] [0,2,3,4,5,23] ?_
  refine gk_if (fun c2=> ?_) (fun c2=> ?_)
  ·try simp only[bb,toN]at c2
   refine gk_region env false [] [0,2,3,4,5] ?_
   refine gk_ret env ?_
   rw[nxT,if_pos c1,if_neg (by rw[c2];decide)];rfl
  ·try simp only[bb,toN]at c2
   refine gk_region env false [] [0,2,3,4] ?_
   refine gk_ret env ?_
   rw[nxT,if_pos c1,if_pos c2];rfl
 ·try simp only[bb,toN]at c1
  refine gk_region env false [.call (digit_ok (byteAt s 0))] [0,2,3,4,29] ?_
  refine gk_if (fun c3=> ?_) (fun c3=> ?_)
  ·try simp only[bb,toN]at c3
   refine gk_region env false [.call (spanD_ok s hs)] [0,2,3,4,6] ?_ (hp:=(by simp only[AllP,bb,toN,loI,hiI];repeat' first|exact trivial|exact EntL.refl _|exact BEntL.refl _|exact rfl|omega|apply And.intro|intro _))
   refine gk_region env false [.call (number_ok (tkn s (span digit s 0)) (by omega))] [0,2,3,4,6,7,8] ?_
   refine gk_region env false [] [0,2,3,4,6,7,43] ?_
   refine gk_if (fun c4=> ?_) (fun c4=> ?_)
   ·try simp only[bb,toN]at c4
    refine gk_region env false [] [0,2,3,4,6,7] ?_
    refine gk_ret env ?_
    rw[nxT,if_neg (by rw[c1];decide),if_pos c3,if_neg (by rw[c4];decide)];rfl
   ·try simp only[bb,toN]at c4
    refine gk_region env false [] [0,2,3,4] ?_
    refine gk_ret env ?_
    rw[nxT,if_neg (by rw[c1];decide),if_pos c3,if_pos c4];rfl
  ·try simp only[bb,toN]at c3
   refine gk_region env false [] [0,2,3,4,50] ?_
   refine gk_ifd (fun c5=> ?_) (fun c5=> ?_)
   ·try simp only[toN]at c5
    exact absurd c5 hq
   ·try simp only[toN]at c5
    refine gk_region env false [] [0,2,3,4,65,66] ?_
    refine gk_loop (α:=Nat) (fun k=>k≤13∧(sgnL.drop 0).contains (byteAt s 0)=(sgnL.drop k).contains (byteAt s 0)) (fun k=>[(66,iG k)]) (fun _=>[]) (fun k=>13-k) 0 ⟨by omega,rfl⟩ ?_ (hp:=by (try simp only[AllP,Nat.zero_add]);repeat' first|exact trivial|exact rfl|exact EntL.refl _|exact BEntL.refl _|omega|apply And.intro|(simp;done)|(simp[*];done))
    rintro k ⟨hk,he⟩
    refine gk_region env false [] [0,2,3,4,65,66,67] ?_
    refine gk_ifd (fun c6=> ?_) (fun c6=> ?_)
    ·try simp only[toN]at c6
     have hk2:k<13:=by omega
     refine gk_region env false [.cell (cG (sgnL.getD k 0))] [0,2,3,4,12,65,66] ?_ (hp:=(by simp only[AllP,toN];repeat' first|exact trivial|exact sgn_cell hk2|omega|apply And.intro))
     refine gk_region env false [] [0,2,3,4,65,66,72] ?_
     refine gk_ifd (fun c7=> ?_) (fun c7=> ?_)
     ·try simp only[toN]at c7
      refine gk_region env false [] [0,2,3,4,65,66] ?_ (hp:=(by simp only[AllP,bb,toN,loI,hiI];repeat' first|exact trivial|exact EntL.refl _|exact BEntL.refl _|exact rfl|omega|apply And.intro|intro _))
      refine gk_ret env ?_
      rw[nxT,if_neg (by rw[c1];decide),if_neg (by rw[c3];decide),if_pos (he.trans (sgn_hit hk2 c7))];rfl
     ·try simp only[toN]at c7
      refine gk_region env false [] [0,2,3,4,65,66] ?_
      refine gk_round (k+1) ?_ (hp:=by (try simp only[AllP,Nat.zero_add]);repeat' first|exact trivial|exact rfl|exact EntL.refl _|exact BEntL.refl _|omega|apply And.intro|(simp;done)|(simp[*];done))
      exact ⟨hk2,he.trans (sgn_skip hk2 c7)⟩
    ·try simp only[toN]at c6
     refine gk_region env false [] [2,3,4] ?_
     refine gk_ret env ?_
     obtain rfl:k=13:=by omega
     rw[nxT,if_neg (by rw[c1];decide),if_neg (by rw[c3];decide),if_neg (by rw[he];exact Bool.false_ne_true)];rfl
theorem nxT_len (u:ByteArray) (h:0<u.size):0≤(nxT u).2.1∧(nxT u).2.1≤u.size:=by
 have h1:=tkn_size u (span inner u 0)
 have h2:=tkn_size u (span digit u 0)
 unfold nxT
 split
 ·split<;>dsimp only<;>omega
 ·split
  ·split<;>dsimp only<;>omega
  ·split<;>dsimp only<;>omega
theorem ext_size (s:ByteArray) {a:Int} (h0:0≤a) (h1:a≤s.size):((s.extract a.toNat s.size).size:Int)=s.size-a:=by
 rw[ByteArray.size_extract];omega
theorem scan_ok (s:ByteArray) (hs:s.size≤20000) (N:Nat) (hN:N≤100000) (hok:scOk s N 0=true):GC Tryz.prog 38 [sG s] (.tup [.d (.row default tkC (scF s N 0 []).1),iG (scF s N 0 []).2.1,iG (scF s N 0 []).2.2]):=by
 obtain ⟨Z,hZ⟩:∃Z,Z=scF s N 0 []:=⟨_,rfl⟩
 rw[←hZ]
 refine gc_of_gk Tryz.func38 ?_
 refine gk_region env false [] [0,2,3,4] ?_
 refine gk_region env false [] [0,2,3,4,12] ?_
 refine gk_ifd (fun c1=> ?_) (fun c1=> ?_)
 ·try simp only[toN]at c1
  exfalso;omega
 ·try simp only[toN]at c1
  refine gk_region env false [] [0,2,3,4,5] ?_
  refine gk_region env false [] [0,2,3,4,5,6] ?_
  refine gk_nil 5 148 4 (default:Tk) tkC (by rfl) (by rfl) ?_
  refine gk_loop (α:=Nat×Int×List Tk) (fun x=>scOk s x.1 x.2.1=true∧Z=scF s x.1 x.2.1 x.2.2∧(0≤x.2.1∧x.2.1≤s.size)∧x.2.2.length+x.1≤N) (fun x=>[(5,.sl 0 4 0 x.2.2.length),(6,iG x.2.1)]) (fun x=>[(0,some (.row 148 4 (default:Tk) tkC x.2.2 0))]) (fun x=>x.1) (N,0,[]) ⟨hok,hZ,⟨Int.le_refl _,by dsimp only;omega⟩,by dsimp only;simp⟩ ?_ (hp:=by (try simp only[AllP,Nat.zero_add]);repeat' first|exact trivial|exact rfl|exact EntL.refl _|exact BEntL.refl _|omega|apply And.intro|(simp;done)|(simp[*];done))
  rintro ⟨k,at_,out⟩ ⟨hok,he,⟨h0,h1⟩,hol⟩
  dsimp only at*
  obtain ⟨k,rfl⟩:∃j,k=j+1:=by
   cases k with
   |zero=>exact absurd hok (by rw[scOk];decide)
   |succ k=>exact ⟨k,rfl⟩
  rw[scOk,Bool.and_eq_true]at hok
  obtain ⟨g1,hok2⟩:=hok
  rw[scF]at he
  have hx:=ext_size s h0 h1
  have hy:=span_in blank (s.extract at_.toNat s.size)
  obtain ⟨A,hA⟩:∃A,A=at_+span blank (s.extract at_.toNat s.size) 0:=⟨_,rfl⟩
  rw[←hA]at he hok2
  have hA0:0≤A∧A≤s.size:=by omega
  refine gk_region env false [.call (gap_ok (s.extract at_.toNat s.size) (by omega) g1)] [0,2,3,4,5,6] ?_ (hp:=(by simp only[AllP,bb,toN,loI,hiI];repeat' first|exact trivial|exact EntL.refl _|exact BEntL.refl _|exact rfl|omega|apply And.intro|intro _))
  rw[←hA]
  refine gk_region env false [] [0,2,3,4,5,6,22] ?_
  refine gk_ifd (fun c2=> ?_) (fun c2=> ?_)
  ·try simp only[toN]at c2
   rw[if_pos (by omega)]at he
   refine gk_row 0 ?_
   refine gk_region env false [] [0,2,3,4,5,6] ?_
   refine gk_ret env ?_
   rw[he];rfl
  ·try simp only[toN]at c2
   rw[if_neg (by omega)]at he
   simp only[Bool.or_eq_true,Bool.and_eq_true,decide_eq_true_eq,Bool.not_eq_true',decide_eq_false_iff_not]at hok2
   obtain ⟨hq,hok3⟩:=hok2.resolve_left (by omega)
   have hz:=ext_size s hA0.1 hA0.2
   have hl:=nxT_len (s.extract A.toNat s.size) (by omega)
   refine gk_region env false [.call (lnext_ok (s.extract A.toNat s.size) (by omega) (by omega) hq)] [0,2,3,4,5,6,7,8,9] ?_ (hp:=(by simp only[AllP,bb,toN,loI,hiI];repeat' first|exact trivial|exact EntL.refl _|exact BEntL.refl _|exact rfl|omega|apply And.intro|intro _))
   refine gk_region env false [] [0,2,3,4,5,6,7,8,9,33] ?_
   refine gk_ifn (fun c3=> ?_) (fun c3=> ?_)
   ·try simp only[toN]at c3
    rw[if_neg c3]at he
    refine gk_region env false [] [0,2,3,4,5,6,7,8] ?_
    refine gk_retE env ?_
    rw[he];exact Ent.tup ⟨Ent.nil,Ent.refl _,Ent.refl _,trivial⟩
   ·try simp only[toN]at c3
    rw[if_pos (by omega)]at he
    refine gk_region env false [] [0,2,3,4,5,6,7,8] ?_
    refine gk_region env false [.el (default:Tk) tkC [(⟨(nxT (s.extract A.toNat s.size)).1.kind,(nxT (s.extract A.toNat s.size)).1.text,(nxT (s.extract A.toNat s.size)).1.n,A⟩:Tk)],.el (default:Tk) tkC (out++ [(⟨(nxT (s.extract A.toNat s.size)).1.kind,(nxT (s.extract A.toNat s.size)).1.text,(nxT (s.extract A.toNat s.size)).1.n,A⟩:Tk)])] [0,2,3,4,5,6,8] ?_ (hp:=(by simp only[AllP,bb,toN,loI,hiI,Int.toNat_natCast];repeat' first|exact trivial|exact EntL.refl _|exact BEntL.refl _|exact rfl|omega|apply And.intro|intro _|(simp[rowL];done)|(simp only[List.length_append,List.length_cons,List.length_nil];omega)|(simp[*];done)))
    refine gk_region env false [] [0,2,3,4,5,6] ?_ (hp:=(by simp only[AllP,bb,toN,loI,hiI];repeat' first|exact trivial|exact EntL.refl _|exact BEntL.refl _|exact rfl|omega|apply And.intro|intro _))
    refine gk_round ((k,A+(nxT (s.extract A.toNat s.size)).2.1,out++ [(⟨(nxT (s.extract A.toNat s.size)).1.kind,(nxT (s.extract A.toNat s.size)).1.text,(nxT (s.extract A.toNat s.size)).1.n,A⟩:Tk)])) ?_ (hp:=by (try simp only[AllP,Nat.zero_add]);repeat' first|exact trivial|exact rfl|exact EntL.refl _|exact BEntL.refl _|omega|apply And.intro|(simp;done)|(simp[*];done)) (hm:=by dsimp only;omega)
    refine ⟨hok3,he,⟨by dsimp only;omega,by dsimp only;omega⟩,by dsimp only;simp;omega⟩
open Go.RowKit Go.Proofs
theorem arr1 {us:Array Value} (h:us.size=1):∃u,us= #[u]:=by
 obtain ⟨l⟩:=us
 match l,h with
 | [u],_=>exact ⟨u,rfl⟩
def fldsT (s:ByteArray):List ByteArray:=(Lib.fields s.data.toList).map fun l=>⟨l.toArray⟩
def QS:ByteArray:=(⟨#[102,111,114,109,32,97,98,108,101,32,98,105,110,100,115,32,116,97,107,101,115,32,110,101,119,116,101,120,116,32,99,117,116,115,32,103,114,97,99,101,32,115,104,111,119,32,112,114,111,116,101,115,116,32,119,105,116,110,101,115,115,32,112,114,111,116,101,115,116,100,97,121,115,32,110,111,116,105,99,101,32,110,111,116,105,99,101,100,97,121,115,32,108,105,109,105,116,97,99,99,101,112,116,111,114,32,108,105,109,105,116,104,111,108,100,101,114,32,108,105,109,105,116,97,109,111,110,103,32,105,110,116,101,114,101,115,116,32,114,101,101,120,99,104,97,110,103,101,32,115,101,116,111,102,102,32,114,101,99,111,103,110,105,122,101,32,99,97,110,99,101,108,100,97,121,115,32,112,114,101,102,101,114]⟩:ByteArray)
theorem flds_ok (s:ByteArray) (hs:s.size≤100000) (ha:(s.data.toList.all fun b=>decide (b.toNat<128))=true):GC Tryz.prog 154 [sG s] (.d (.row default strC (fldsT s))):=by
 refine gc_of_vrs Tryz.func154 rfl rfl rfl fun F w us hg hF hv=> ?_
 have e:us= #[.string s]:=by
  have h1:=hv.1
  have h2:us.size=1:=h1
  obtain ⟨u,rfl⟩:=arr1 h2
  have:=(hv.2 0 (sG s) u rfl rfl).sc_eq.1
  rw[this]
 subst e
 refine (Tryz.strings_Fields s w (by omega) (fun j b hj=>by
  rw[List.all_eq_true]at ha
  have:=ha b (List.mem_of_getElem? hj)
  simpa using this) (tabIs_of_glob (g:=3) hg (by exact List.mem_cons_of_mem _ List.mem_cons_self) (by kernel_rfl))).mono fun e w' ⟨h1,h2⟩=> ?_
 subst h2
 have hlen:(fldsT s).length=(Lib.fields s.data.toList).length:=by simp[fldsT]
 obtain ⟨Fn,f1,f2⟩:=vr_row (df:=(default:ByteArray)) (cs:=strC) (f:=fun x=>[.string x]) (es:=1) (W:=w.alloc (.cells ((Lib.fields s.data.toList).map fun l=>Value.string ⟨l.toArray⟩).toArray 9)) (A:=some ⟨w.heap.size,0,none⟩) (c:=(Lib.fields s.data.toList).length) (xs:=fldsT s) w.heap.size (fun _=>rfl) (fun _=>rfl) (fun x u hu=>by simp at hu;subst hu;rfl) (by rw[hlen];exact Nat.le_refl _) (fun _=>⟨w.heap.size,0,rfl,Nat.le_refl _,fun i x hx j u hu=>by
  rcases j with _|j
  ·simp at hu;subst hu
   rw[blk_cell (World.alloc_heap_new w _)]
   unfold fldsT at hx
   rw[List.getElem?_map]at hx
   simp only[Nat.zero_add,Nat.mul_one,Nat.add_zero,List.getElem?_toArray,List.getElem?_map]
   cases hq:(Lib.fields s.data.toList)[i]? with
   |none=>rw[hq]at hx;cases hx
   |some l=>rw[hq]at hx;cases hx;rfl
  ·simp at hu⟩)
 rw[hlen]at f2
 exact ⟨_,Fn,h1,(Below.refl _ w).alloc (Nat.le_refl _) _,f1,.d f2⟩
theorem quest_ok:GC Tryz.prog 118 [] (.d (.row default strC (fldsT QS))):=by
 refine gc_of_gk Tryz.func118 ?_
 refine gk_region env false [] [] ?_
 refine gk_region env false [.call (flds_ok QS (by decide) (by kernel_rfl))] [0] ?_
 refine gk_ret env ?_
 rfl
def tkA (ts:List Tk) (a:Nat):Tk:=ts.getD a default
def isB (ts:List Tk) (a:Nat) (s:ByteArray):Bool:=bif (bif decide ((a:Int)<(ts.length:Int))then decide ((tkA ts a).text=s)else false)then (bif decide ((tkA ts a).kind=0)then true else decide ((tkA ts a).kind=3))else false
abbrev rdB (ts:List Tk) (a:Nat):Blk:= .box [.d (.row default tkC ts),iG a,iG 32,.d (.sc (.slice none 0 0))]
theorem ris_ok (ts:List Tk) (a:Nat) (hl:ts.length≤1000) (ha:a≤1000) (s:ByteArray):GM Tryz.prog 116 [.ptr 0 0 0 0,sG s] [rdB ts a] (bG (isB ts a s)) [some (rdB ts a)]:=by
 refine gm_of_gk Tryz.func116 ?_
 refine gk_region env false [] [0,1,4] ?_
 refine gk_region env false [] [4] ?_ (hp:=(by simp only[AllP,bb,toN,loI,hiI];repeat' first|exact trivial|exact EntL.refl _|exact BEntL.refl _|exact rfl|omega|apply And.intro|intro _))
 refine gk_retX env [bG (isB ts a s)] (hp:= ?_)
 (try simp only[AllP,Nat.zero_add]);repeat' first|exact trivial|exact rfl|exact EntL.refl _|exact BEntL.refl _|omega|apply And.intro
theorem take_no (ts:List Tk) (a:Nat) (hl:ts.length≤1000) (ha:a≤1000) (s:ByteArray) (h:isB ts a s=false):GM Tryz.prog 75 [.ptr 0 0 0 0,sG s] [rdB ts a] (bG false) [some (rdB ts a)]:=by
 refine gm_of_gk Tryz.func75 ?_
 refine gk_region env false [] [0,1,4] ?_
 refine gk_region env false [.callm [0] (ris_ok ts a hl ha s)] [0,4,8] ?_ (hp:=(by simp only[AllP,bb,toN,loI,hiI];repeat' first|exact trivial|exact EntL.refl _|exact BEntL.refl _|exact rfl|omega|apply And.intro|intro _))
 refine gk_if (fun c1=> ?_) (fun c1=> ?_)
 ·try simp only[bb,toN]at c1
  refine gk_region env false [] [0,4] ?_
  refine gk_retX env [bG false] (hp:= ?_)
  (try simp only[AllP,Nat.zero_add]);repeat' first|exact trivial|exact rfl|exact EntL.refl _|exact BEntL.refl _|omega|apply And.intro
 ·try simp only[bb,toN]at c1
  rw[h]at c1;cases c1
theorem take_yes (ts:List Tk) (a:Nat) (hl:ts.length≤1000) (ha:a≤1000) (s:ByteArray) (h:isB ts a s=true):GM Tryz.prog 75 [.ptr 0 0 0 0,sG s] [rdB ts a] (bG true) [some (rdB ts (a+1))]:=by
 refine gm_of_gk Tryz.func75 ?_
 refine gk_region env false [] [0,1,4] ?_
 refine gk_region env false [.callm [0] (ris_ok ts a hl ha s)] [0,4,8] ?_ (hp:=(by simp only[AllP,bb,toN,loI,hiI];repeat' first|exact trivial|exact EntL.refl _|exact BEntL.refl _|exact rfl|omega|apply And.intro|intro _))
 refine gk_if (fun c1=> ?_) (fun c1=> ?_)
 ·try simp only[bb,toN]at c1
  rw[h]at c1;cases c1
 ·try simp only[bb,toN]at c1
  refine gk_region env false [] [4] ?_ (hp:=(by simp only[AllP,bb,toN,loI,hiI];repeat' first|exact trivial|exact EntL.refl _|exact BEntL.refl _|exact rfl|omega|apply And.intro|intro _))
  refine gk_region env false [] [4] ?_
  refine gk_retX env [bG true] (hp:= ?_)
  (try simp only[AllP,Nat.zero_add]);repeat' first|exact trivial|exact rfl|exact EntL.refl _|exact BEntL.refl _|omega|apply And.intro
theorem need_yes (ts:List Tk) (a:Nat) (hl:ts.length≤1000) (ha:a≤1000) (s:ByteArray) (h:isB ts a s=true):GM Tryz.prog 70 [.ptr 0 0 0 0,sG s] [rdB ts a] (.tup []) [some (rdB ts (a+1))]:=by
 refine gm_of_gk Tryz.func70 ?_
 refine gk_region env false [.callm [0] (take_yes ts a hl ha s h)] [0,7] ?_ (hp:=(by simp only[AllP,bb,toN,loI,hiI];repeat' first|exact trivial|exact EntL.refl _|exact BEntL.refl _|exact rfl|omega|apply And.intro|intro _))
 refine gk_if (fun c1=> ?_) (fun c1=> ?_)
 ·try simp only[bb,toN]at c1
  cases c1
 ·try simp only[bb,toN]at c1
  refine gk_endX env [] (hp:= ?_)
  (try simp only[AllP,Nat.zero_add]);repeat' first|exact trivial|exact rfl|exact EntL.refl _|exact BEntL.refl _|omega|apply And.intro
theorem rname_ok (ts:List Tk) (a:Nat) (hl:ts.length≤1000) (ha:a≤1000) (h:a<ts.length) (h0:(tkA ts a).kind=0):GM Tryz.prog 71 [.ptr 0 0 0 0] [rdB ts a] (sG (tkA ts a).text) [some (rdB ts a)]:=by
 refine gm_of_gk Tryz.func71 ?_
 refine gk_region env false [] [0,2] ?_
 refine gk_region env false [] [0,2,26] ?_ (hp:=(by simp only[AllP,bb,toN,loI,hiI];repeat' first|exact trivial|exact EntL.refl _|exact BEntL.refl _|exact rfl|omega|apply And.intro|intro _))
 refine gk_if (fun c1=> ?_) (fun c1=> ?_)
 ·try simp only[bb,toN]at c1
  unfold tkA at h0
  omega
 ·try simp only[bb,toN]at c1
  refine gk_region env false [] [2] ?_ (hp:=(by simp only[AllP,bb,toN,loI,hiI];repeat' first|exact trivial|exact EntL.refl _|exact BEntL.refl _|exact rfl|omega|apply And.intro|intro _))
  refine gk_retX env [sG (tkA ts a).text] (hp:= ?_)
  (try simp only[AllP,Nat.zero_add]);repeat' first|exact trivial|exact rfl|exact EntL.refl _|exact BEntL.refl _|omega|apply And.intro
theorem one_ok (ts:List Tk) (a:Nat) (hl:ts.length≤1000) (ha:a≤1000) (h:a<ts.length) (h0:(tkA ts a).kind=0) (names:List ByteArray) (hn:names.length≤1000) (h1:0≤findI (fun y=>decide (y=(tkA ts a).text)) names 0):GM Tryz.prog 117 [.ptr 0 0 0 0,.d (.row default strC names)] [rdB ts a] (iG (findI (fun y=>decide (y=(tkA ts a).text)) names 0)) [some (rdB ts a)]:=by
 refine gm_of_gk Tryz.func117 ?_
 refine gk_region env false [] [0,1,4] ?_
 refine gk_region env false [.callm [0] (rname_ok ts a hl ha h h0),.call (indexS_ok names (by omega) (tkA ts a).text)] [0,4,5] ?_ (hp:=(by simp only[AllP,bb,toN,loI,hiI];repeat' first|exact trivial|exact EntL.refl _|exact BEntL.refl _|exact rfl|omega|apply And.intro|intro _))
 refine gk_region env false [] [0,4,5,11] ?_
 refine gk_ifd (fun c1=> ?_) (fun c1=> ?_)
 ·try simp only[toN]at c1
  exfalso;omega
 ·try simp only[toN]at c1
  refine gk_region env false [] [4] ?_
  refine gk_retX env [iG (findI (fun y=>decide (y=(tkA ts a).text)) names 0)] (hp:= ?_)
  (try simp only[AllP,Nat.zero_add]);repeat' first|exact trivial|exact rfl|exact EntL.refl _|exact BEntL.refl _|omega|apply And.intro
structure Est where
 firm:Int
 day:Int
 pot:Int
deriving DecidableEq
instance :Inhabited Est:=⟨⟨0,0,0⟩⟩
def esC (x:Est):List D:=[.sc (.int .i64 x.firm),.sc (.int .i64 x.day),.sc (.int .i64 x.pot)]
structure Prv where
 bill:Int
 est:Int
 sum:Int
deriving DecidableEq
instance :Inhabited Prv:=⟨⟨0,0,0⟩⟩
def prC (x:Prv):List D:=[.sc (.int .i64 x.bill),.sc (.int .i64 x.est),.sc (.int .i64 x.sum)]
structure Pyo where
 proof:Int
 sum:Int
deriving DecidableEq
instance :Inhabited Pyo:=⟨⟨0,0⟩⟩
def pyC (x:Pyo):List D:=[.sc (.int .i64 x.proof),.sc (.int .i64 x.sum)]
theorem ein_ok (n lo hi:Int):GC Tryz.prog 83 [iG n,iG lo,iG hi] (bG (bif decide (lo≤n)then decide (n≤hi)else false)):=by
 refine gc_of_gk Tryz.func83 ?_
 refine gk_region env false [] [0,1,2,6] ?_
 refine gk_region env false [] [6] ?_
 refine gk_ret env ?_
 rfl
theorem ck_two (a b:Int) (e:Bool) (w:World):(Instr.checkKey e 10000 37 (.agg [.int .i64 a,.int .i64 b].toArray)).run Tryz.prog w= .ok () w:=by
 kernel_rfl
theorem eright_ok:GC Tryz.prog 41 [.d (.row (default:Est) esC [⟨0,0,50⟩]),.d (.row (0:Int) inC [100]),.d (.row (default:Prv) prC [⟨0,0,100⟩])] (bG true):=by
 refine gc_of_gk Tryz.func41 ?_
 refine gk_region env false [] [0,1,2,6] ?_
 refine gk_region env false [] [0,1,2,6,27] ?_
 refine gk_if (fun c1=> ?_) (fun c1=> ?_)
 ·exact absurd c1 (by decide)
 clear c1
 refine gk_region env false [] [0,1,2,6,28,29,30] ?_
 refine gk_loop (α:=Bool) (fun _=>True) (fun c=>[(30,iG (bif c then 1 else 0))]) (fun _=>[]) (fun c=>bif c then 0 else 1) false trivial ?_ (hp:=by (try simp only[AllP,Nat.zero_add]);repeat' first|exact trivial|exact rfl|exact EntL.refl _|exact BEntL.refl _|omega|apply And.intro|(simp;done)|(simp[*];done))
 rintro cd-
 cases cd with
 |false=>
  simp only[cond_false]
  refine gk_region env false [] [0,1,2,6,28,29,30,31] ?_
  refine gk_ifd (fun c1=> ?_) (fun c1=> ?_)
  ·refine gk_region env false [] [0,1,2,6,8,28,29,30] ?_
   refine gk_region env false [.call (ein_ok 50 0 1099511627776)] [0,1,2,6,28,29,30,37] ?_
   refine gk_if (fun c2=> ?_) (fun c2=> ?_)
   ·exact absurd c2 (by decide)
   refine gk_region env false [] [0,1,2,6,28,29,30] ?_
   exact gk_round true trivial (hp:=by (try simp only[AllP,Nat.zero_add]);repeat' first|exact trivial|exact rfl|exact EntL.refl _|exact BEntL.refl _|omega|apply And.intro) (hm:=by decide)
  ·exact absurd (by decide) c1
 |true=>
  simp only[cond_true]
  refine gk_region env false [] [0,1,2,6,28,29,30,31] ?_
  refine gk_ifd (fun c1=> ?_) (fun c1=> ?_)
  ·exact absurd c1 (by decide)
  clear c1
  refine gk_region env false [] [0,1,2,6,39,40,41] ?_
  refine gk_loop (α:=Bool) (fun _=>True) (fun c=>[(41,iG (bif c then 1 else 0))]) (fun _=>[]) (fun c=>bif c then 0 else 1) false trivial ?_ (hp:=by (try simp only[AllP,Nat.zero_add]);repeat' first|exact trivial|exact rfl|exact EntL.refl _|exact BEntL.refl _|omega|apply And.intro|(simp;done)|(simp[*];done))
  rintro cd-
  cases cd with
  |false=>
   simp only[cond_false]
   refine gk_region env false [] [0,1,2,6,39,40,41,42] ?_
   refine gk_ifd (fun c1=> ?_) (fun c1=> ?_)
   ·refine gk_region env false [] [0,1,2,6,10,39,40,41] ?_
    refine gk_region env false [.call (ein_ok 100 1 1099511627776)] [0,1,2,6,39,40,41,47] ?_
    refine gk_if (fun c2=> ?_) (fun c2=> ?_)
    ·exact absurd c2 (by decide)
    refine gk_region env false [] [0,1,2,6,39,40,41] ?_
    exact gk_round true trivial (hp:=by (try simp only[AllP,Nat.zero_add]);repeat' first|exact trivial|exact rfl|exact EntL.refl _|exact BEntL.refl _|omega|apply And.intro) (hm:=by decide)
   ·exact absurd (by decide) c1
  |true=>
   simp only[cond_true]
   refine gk_region env false [] [0,1,2,6,39,40,41,42] ?_
   refine gk_ifd (fun c1=> ?_) (fun c1=> ?_)
   ·exact absurd c1 (by decide)
   clear c1
   refine gk_region env false [] [0,1,2,6,11] ?_
   refine gk_region env false [] [0,1,2,6,11,50,51,52] ?_
   refine gk_loop (α:=Bool) (fun _=>True) (fun c=>[(52,iG (bif c then 1 else 0))]) (fun c=>[(0,some (.mp (bif c then [(.agg #[.int .i64 0,.int .i64 0],.bool true)]else [])))]) (fun c=>bif c then 0 else 1) false trivial ?_ (hp:=by (try simp only[AllP,Nat.zero_add]);repeat' first|exact trivial|exact rfl|exact EntL.refl _|exact BEntL.refl _|omega|apply And.intro|(simp;done)|(simp[*];done))
   rintro cd-
   cases cd with
   |false=>
    simp only[cond_false]
    refine gk_region env false [] [0,1,2,6,11,50,51,52,53] ?_
    refine gk_ifd (fun c1=> ?_) (fun c1=> ?_)
    ·refine gk_region env false [] [0,1,2,6,11,13,50,51,52] ?_
     refine gk_region env false [] [0,1,2,6,11,13,14,50,51,52] ?_
     refine gk_draw env ?_
     refine gr_chunk env false 19 [.call (ein_ok 0 0 0),.call (ein_ok 0 0 0)] ?_ (hp:=(by simp only[AllP,bb,toN,loI,hiI];repeat' first|exact trivial|exact EntL.refl _|exact BEntL.refl _|exact rfl|omega|apply And.intro|intro _|decide))
     refine gr_lop {g:= .d (.sc (.bool false)),fp:=[0]} (lop_lookup0 (kt:=37) (et:=4) (z:= .bool false) (gs:=[iG 0,iG 0]) (us:=[.int .i64 0,.int .i64 0]) rfl (tab_ok 175 _ rfl).1 (tab_ok 37 _ rfl).1 (fun w=>(tab_ok 4 _ rfl).zeroV w) rfl rfl rfl rfl (ck_two _ _) rfl) ?_
     refine gr_chunk env false 100 [.call (ein_ok 100 1 100)] ?_ (hp:=(by simp only[AllP,bb,toN,loI,hiI];repeat' first|exact trivial|exact EntL.refl _|exact BEntL.refl _|exact rfl|omega|apply And.intro|intro _|decide))
     refine gr_end [0,1,2,6,11,13,14,50,51,52,92] ?_
     refine gk_if (fun c2=> ?_) (fun c2=> ?_)
     ·exact absurd c2 (by decide)
     refine gk_ops ?_
     refine gwo_chunk env false 2 [] ?_
     refine gwo_lop {g:= .junk,upd:=[(0,some (.mp [(.agg #[.int .i64 0,.int .i64 0],.bool true)]))],fp:=[0]} (lop_mapAdd0 (kt:=37) (et:=4) (gs:=[iG 0,iG 0]) (us:=[.int .i64 0,.int .i64 0]) (v:= .bool true) rfl (tab_ok 175 _ rfl).1 (tab_ok 37 _ rfl).1 rfl rfl rfl rfl rfl (ck_two _ _)) ?_
     refine gwo_end [0,1,2,6,11,50,51,52] ?_
     refine gk_region env false [] [0,1,2,6,11,50,51,52] ?_
     exact gk_round true trivial (hp:=by (try simp only[AllP,Nat.zero_add]);repeat' first|exact trivial|exact rfl|exact EntL.refl _|exact BEntL.refl _|omega|apply And.intro) (hm:=by decide)
    ·exact absurd (by decide) c1
   |true=>
    simp only[cond_true]
    refine gk_region env false [] [0,1,2,6,11,50,51,52,53] ?_
    refine gk_ifd (fun c1=> ?_) (fun c1=> ?_)
    ·exact absurd c1 (by decide)
    refine gk_region env false [] [6] ?_
    refine gk_ret env ?_
    rfl
end Go.Gh
