/- Walks by the logic of calls, and plain laws (several texts in one). -/
import Derived.Test.YtffffkfcbjobnaaGreatM1
import Derived.RangeFuncNested
import Derived.RangeFuncBound
import Derived.RangeFuncCalls
import Derived.RangeFuncLeaves
import Derived.RangeFuncBox
import Derived.Shelf.Abstract
import Derived.Shelf.RegionOpen
import Derived.OwnWalkIn
import Derived.TacticsInMore
import Derived.LoopNIn
import Derived.LoopIn
import Derived.Shelf.Strings.Builder1
import Derived.Shelf.Strings.Builder2
import Derived.Shelf.Strings.OnBuilder
import Derived.Shelf.Strings.BuilderF
import Derived.Shelf.Strings.BuilderK
import Derived.Test.YtffffkfcbjobnaaGreatProg
import Derived.WalkKit
import Derived.WalkSpells
import Derived.WalkLawsBesides
import Derived.Handy
import Derived.Deep.QuietTactic
import Derived.BigQuiet
import Derived.Deep.DeepCutAuto
import Derived.Lib.Hide
namespace Go.Gh
open Go Go.Proofs
set_option maxRecDepth 1000000
set_option maxHeartbeats 2000000
set_option linter.unusedSimpArgs false
set_option linter.unusedVariables false
set_option linter.unnecessarySimpa false
open Go.RowKit
theorem rletter_ok (c:Int):GC Tryz.prog 145 [cG c] (bG (letter c)):=by
 refine gc_of_gk Tryz.func145 ?_
 refine gk_region env false [] [0,2] ?_
 refine gk_region env false [] [2] ?_
 refine gk_ret env ?_
 simp[letter,tupG]
theorem rdigit_ok (c:Int):GC Tryz.prog 59 [cG c] (bG (digit c)):=by
 refine gc_of_gk Tryz.func59 ?_
 refine gk_region env false [] [0,2] ?_
 refine gk_region env false [] [2] ?_
 refine gk_ret env ?_
 simp[digit,tupG]
theorem rname_ok (s:ByteArray) (hs:s.size≤9223372036854775807):GC Tryz.prog 113 [sG s] (bG (nameOk s)):=by
 refine gc_of_gk Tryz.func113 ?_
 refine gk_region env false [] [0,2] ?_
 refine gk_region env false [.call (rletter_ok (byteAt s 0))] [0,2,17] ?_
 refine gk_if (fun c1=> ?_) (fun c1=> ?_)
 ·try simp only[bb,toN]at c1
  refine gk_region env false [] [0,2] ?_
  refine gk_ret env ?_
  have e:=empty_iff s
  rcases c1 with (h|h)|h
  ·have:s=⟨#[]⟩:=e.2 (by omega)
   simp[nameOk,this,tupG]
  ·have:¬(s.size:Int)≤20:=by omega
   simp[nameOk,this,tupG]
  ·simp[nameOk,h,tupG]
 ·try simp only[bb,toN]at c1
  refine gk_region env false [] [0,2,3] ?_
  refine gk_loop (α:=Nat) (fun i=>1≤i∧i≤s.size∧span inner s 0=span inner s i) (fun i=>[(3,iG i)]) (fun _=>[]) (fun i=>s.size-i) 1 ⟨by omega,by omega,by rw[span,if_pos (by omega),if_pos (by simp[inner,c1.2])]⟩ ?_
  rintro i ⟨h1,hi,he⟩
  refine gk_region env false [] [0,2,3,21] ?_
  refine gk_ifd (fun c2=> ?_) (fun c2=> ?_)
  ·try simp only[toN]at c2
   refine gk_region env false [.call (rletter_ok (byteAt s i)),.call (rdigit_ok (byteAt s i))] [0,2,3,41] ?_
   refine gk_if (fun c3=> ?_) (fun c3=> ?_)
   ·try simp only[bb,toN]at c3
    refine gk_region env false [] [0,2,3] ?_
    refine gk_ret env ?_
    have hp:inner (byteAt s i)=false:=by
     have c3:(letter (byteAt s i)=false∧digit (byteAt s i)=false)∧¬byteAt s i=95:=by simpa using c3
     exact inner_not c3.1.1 c3.1.2 c3.2
    have:=span_stop (by omega) he hp
    simp[nameOk,this,tupG]
   ·try simp only[bb,toN]at c3
    refine gk_region env false [] [0,2,3] ?_
    refine gk_round (i+1) ?_
    exact ⟨by omega,by omega,he.trans (by rw[span,if_pos (by omega),if_pos (inner_on c3)])⟩
  ·try simp only[toN]at c2
   refine gk_region env false [] [2] ?_
   refine gk_ret env ?_
   have e:=empty_iff s
   have h0:¬s=⟨#[]⟩:=fun h=>by have:=e.1 h;omega
   have hz:span inner s 0=s.size:=by rw[he,span,if_neg (by omega)];omega
   have h20:(s.size:Int)≤20:=by omega
   simp[nameOk,h0,hz,c1.2,h20,tupG]
theorem bs_at {s:ByteArray} {i:Nat} (h:i<s.size):(bs s).drop i=(bs s).getD i 0::(bs s).drop (i+1):=by
 have hl:i<(bs s).length:=by rw[bs_size];exact h
 rw[List.drop_eq_getElem_cons hl,List.getD_eq_getElem?_getD,List.getElem?_eq_getElem hl];rfl
theorem byteAt_bs (s:ByteArray) (i:Nat):byteAt s i=(((bs s).getD i 0).toNat:Int):=rfl
theorem okB_byte (s:ByteArray) (i:Nat):okB ((bs s).getD i 0)=(decide (33≤byteAt s i)&&decide (byteAt s i≤126)):=by
 rw[byteAt_bs,okB];congr 1<;>exact decide_eq_decide.2 (by omega)
theorem all_step {s:ByteArray} {i:Nat} (h:i<s.size):((bs s).drop i).all okB=((decide (33≤byteAt s i)&&decide (byteAt s i≤126))&&((bs s).drop (i+1)).all okB):=by
 rw[bs_at h,List.all_cons,okB_byte]
theorem dec1 (n:Nat):decide ((1:Int)≤n)=decide (1≤n):=decide_eq_decide.2 (by omega)
theorem validS_iff (s:ByteArray):validS s=((decide (1≤s.size)&&decide ((s.size:Int)≤20))&&(bs s).all okB):=by
 have:(!decide (s=⟨#[]⟩))=decide (1≤s.size):=by
  rw[←decide_not]
  refine decide_eq_decide.2 ?_
  rw[empty_iff];omega
 rw[validS,this]
theorem rvalid_ok (s:ByteArray) (hs:s.size≤9223372036854775807):GC Tryz.prog 146 [sG s] (bG (validS s)):=by
 refine gc_of_gk Tryz.func146 ?_
 refine gk_region env false [] [0,2] ?_
 refine gk_region env false [] [0,2,3] ?_
 refine gk_loop (α:=Nat) (fun i=>i≤s.size∧(bs s).all okB=((bs s).drop i).all okB) (fun i=>[(3,iG i)]) (fun _=>[]) (fun i=>s.size-i) 0 ⟨by omega,rfl⟩ ?_
 rintro i ⟨hi,he⟩
 refine gk_region env false [] [0,2,3,7] ?_
 refine gk_ifd (fun c1=> ?_) (fun c1=> ?_)
 ·try simp only[toN]at c1
  refine gk_region env false [] [0,2,3,19] ?_
  refine gk_if (fun c2=> ?_) (fun c2=> ?_)
  ·try simp only[bb,toN]at c2
   refine gk_region env false [] [0,2,3] ?_
   refine gk_ret env ?_
   have e:(bs s).all okB=false:=by
    rw[he,all_step (by omega)]
    rcases c2 with h|h
    ·simp[show ¬33≤byteAt s i by omega]
    ·simp[show ¬byteAt s i≤126 by omega]
   rw[validS_iff,e];simp[tupG]
  ·try simp only[bb,toN]at c2
   refine gk_region env false [] [0,2,3] ?_
   refine gk_round (i+1) ?_
   refine ⟨by omega,he.trans ?_⟩
   rw[all_step (by omega)];simp[show 33≤byteAt s i by omega,show byteAt s i≤126 by omega]
 ·try simp only[toN]at c1
  refine gk_region env false [] [2] ?_
  refine gk_ret env ?_
  have e:(bs s).all okB=true:=by rw[he,List.drop_eq_nil_of_le (by rw[bs_size];omega)];rfl
  rw[validS_iff,e];simp[tupG,dec1]
theorem any_at {α:Type} [Inhabited α] {l:List α} {i:Nat} (h:i<l.length) (p:α→Bool):(l.drop i).any p=(p (l.getD i default)||(l.drop (i+1)).any p):=by
 rw[drop_at h,List.any_cons]
theorem getD_take {α:Type} [Inhabited α] {l:List α} {i j:Nat} (h:j<i):(l.take i).getD j default=l.getD j default:=by
 rw[List.getD_eq_getElem?_getD,List.getD_eq_getElem?_getD,List.getElem?_take,if_pos h]
theorem drop_all {α:Type} {l:List α} {i:Nat} (h:l.length≤i) (p:α→Bool):(l.drop i).any p=false:=by rw[List.drop_eq_nil_of_le h];rfl
theorem rword_ok (l:List ByteArray) (hl:l.length≤1000) (hs:∀s,s∈l→s.size≤1000):GC Tryz.prog 114 [rowS l] (iG (wordE l)):=by
 refine gc_of_gk Tryz.func114 ?_
 refine gk_region env false [] [0,2] ?_
 refine gk_region env false [] [0,2,8] ?_
 refine gk_ifd (fun c1=> ?_) (fun c1=> ?_)
 ·try simp only[toN]at c1
  refine gk_region env false [] [0,2] ?_
  refine gk_ret env ?_
  rw[wordE,if_pos (by omega)];rfl
 ·try simp only[toN]at c1
  refine gk_region env false [] [0,2,11] ?_
  refine gk_ifd (fun c2=> ?_) (fun c2=> ?_)
  ·try simp only[toN]at c2
   refine gk_region env false [] [0,2] ?_
   refine gk_ret env ?_
   rw[wordE,if_neg (by omega),if_pos (by omega)];rfl
  ·try simp only[toN]at c2
   refine gk_region env false [] [0,2,3] ?_
   refine gk_loop (α:=Nat) (fun i=>i≤l.length∧(l.any fun x=> !validS x)=((l.drop i).any fun x=> !validS x)) (fun i=>[(3,iG i)]) (fun _=>[]) (fun i=>l.length-i) 0 ⟨by omega,rfl⟩ ?_
   rintro i ⟨hi,he⟩
   refine gk_region env false [] [0,2,3,15] ?_
   refine gk_ifd (fun c3=> ?_) (fun c3=> ?_)
   ·try simp only[toN]at c3
    refine gk_region env false [.call (rvalid_ok (l.getD i default) (by have:=hs _ (getD_mem (show i<l.length by omega));omega))] [0,2,3,23] ?_
    refine gk_if (fun c4=> ?_) (fun c4=> ?_)
    ·try simp only[bb,toN]at c4
     refine gk_region env false [] [0,2,3] ?_
     refine gk_ret env ?_
     have e:(l.any fun x=> !validS x)=true:=by rw[he,any_at (by omega),c4];rfl
     rw[wordE,if_neg (by omega),if_neg (by omega),if_pos e];rfl
    ·try simp only[bb,toN]at c4
     refine gk_region env false [] [0,2,3] ?_
     refine gk_round (i+1) ?_
     refine ⟨by omega,he.trans ?_⟩
     rw[any_at (by omega),c4];rfl
   ·try simp only[toN]at c3
    refine gk_region env false [] [0,2,4] ?_
    refine gk_loop (α:=Nat) (fun j=>j≤l.length∧dupW l 0=dupW l j) (fun j=>[(4,iG j)]) (fun _=>[]) (fun j=>l.length-j) 0 ⟨by omega,rfl⟩ ?_
    rintro j ⟨hj,hd⟩
    have hv:(l.any fun x=> !validS x)=false:=by rw[he,drop_all (by omega)]
    refine gk_region env false [] [0,2,4,27] ?_
    refine gk_ifd (fun c5=> ?_) (fun c5=> ?_)
    ·try simp only[toN]at c5
     refine gk_region env false [] [0,2,4,5] ?_
     refine gk_loop (α:=Nat) (fun k=>k≤j∧((l.take j).any fun x=>decide (x=l.getD j default))=(((l.take j).drop k).any fun x=>decide (x=l.getD j default))) (fun k=>[(5,iG k)]) (fun _=>[]) (fun k=>j-k) 0 ⟨by omega,rfl⟩ ?_
     rintro k ⟨hk,hn⟩
     refine gk_region env false [] [0,2,4,5,32] ?_
     refine gk_ifd (fun c6=> ?_) (fun c6=> ?_)
     ·try simp only[toN]at c6
      refine gk_region env false [] [0,2,4,5,43] ?_
      refine gk_ifd (fun c7=> ?_) (fun c7=> ?_)
      ·try simp only[toN]at c7
       refine gk_region env false [] [0,2,4,5] ?_
       refine gk_ret env ?_
       have e:dupW l 0=true:=by rw[hd,dupW,if_pos (by omega),hn,any_at (by simp;omega),getD_take (by omega),decide_eq_true c7.symm];rfl
       rw[wordE,if_neg (by omega),if_neg (by omega),if_neg (by simp[hv]),if_pos e];rfl
      ·try simp only[toN]at c7
       refine gk_region env false [] [0,2,4,5] ?_
       refine gk_round (k+1) ?_
       refine ⟨by omega,hn.trans ?_⟩
       rw[any_at (by simp;omega),getD_take (by omega),decide_eq_false (fun e=>c7 e.symm)];rfl
     ·try simp only[toN]at c6
      refine gk_region env false [] [0,2,4] ?_
      refine gk_round (j+1) ?_
      refine ⟨by omega,hd.trans ?_⟩
      rw[dupW,if_pos (by omega),hn,drop_all (by simp;omega)];rfl
    ·try simp only[toN]at c5
     refine gk_region env false [] [2] ?_
     refine gk_ret env ?_
     have e:dupW l 0=false:=by rw[hd,dupW,if_neg (by omega)]
     rw[wordE,if_neg (by omega),if_neg (by omega),if_neg (by rw[hv];simp),if_neg (by simp[e])];rfl
theorem rcheck_ok (d:Dc) (hd:Fit d):GC Tryz.prog 81 [dcG d] (iG (checkE d)):=by
 have hd1:=hd.kind
 have hd2:=hd.fields
 refine gc_of_gk Tryz.func81 ?_
 refine gk_region env false [] [1,2] ?_
 refine gk_region env false [.call (rname_ok d.kind (by omega))] [1,2,11] ?_
 refine gk_if (fun c1=> ?_) (fun c1=> ?_)
 ·try simp only[bb,toN]at c1
  refine gk_region env false [] [1,2] ?_
  refine gk_ret env ?_
  rw[checkE,if_pos (by simpa using c1)];rfl
 ·try simp only[bb,toN]at c1
  refine gk_region env false [] [1,2,15] ?_
  refine gk_ifd (fun c2=> ?_) (fun c2=> ?_)
  ·try simp only[toN]at c2
   refine gk_region env false [] [1,2] ?_
   refine gk_ret env ?_
   rw[checkE,if_neg (by simp[c1]),if_pos (by omega)];rfl
  ·try simp only[toN]at c2
   refine gk_region env false [] [1,2,3] ?_
   refine gk_loop (α:=Nat) (fun i=>i≤d.fields.length∧fieldsE d.fields 0=fieldsE d.fields i) (fun i=>[(3,iG i)]) (fun _=>[]) (fun i=>d.fields.length-i) 0 ⟨by omega,rfl⟩ ?_
   rintro i ⟨hi,he⟩
   have hf:=fun h:i<d.fields.length=>hd.at_ h
   refine gk_region env false [] [1,2,3,20] ?_
   refine gk_ifd (fun c3=> ?_) (fun c3=> ?_)
   ·try simp only[toN]at c3
    refine gk_region env false [] [1,2,3,4] ?_
    refine gk_region env false [.call (rname_ok (d.fields.getD i default).name (by have:=(hf (by omega)).name;omega))] [1,2,3,4,31] ?_
    refine gk_if (fun c4=> ?_) (fun c4=> ?_)
    ·try simp only[bb,toN]at c4
     refine gk_region env false [] [1,2,3,4] ?_
     refine gk_ret env ?_
     rw[checkE,if_neg (by simp[c1]),if_neg (by omega),fieldsE_bad (by omega) he (fieldE_2 c4) (by omega)];rfl
    ·try simp only[bb,toN]at c4
     refine gk_region env false [] [1,2,3,4,5] ?_
     refine gk_loop (α:=Nat) (fun j=>j≤i∧((d.fields.take i).any fun g=>decide (g.name=(d.fields.getD i default).name))=(((d.fields.take i).drop j).any fun g=>decide (g.name=(d.fields.getD i default).name))) (fun j=>[(5,iG j)]) (fun _=>[]) (fun j=>i-j) 0 ⟨by omega,rfl⟩ ?_
     rintro j ⟨hj,hn⟩
     refine gk_region env false [] [1,2,3,4,5,34] ?_
     refine gk_ifd (fun c5=> ?_) (fun c5=> ?_)
     ·try simp only[toN]at c5
      refine gk_region env false [] [1,2,3,4,5,45] ?_
      refine gk_ifd (fun c6=> ?_) (fun c6=> ?_)
      ·try simp only[toN]at c6
       refine gk_region env false [] [1,2,3,4,5] ?_
       refine gk_ret env ?_
       have hdup:((d.fields.take i).any fun g=>decide (g.name=(d.fields.getD i default).name))=true:=by rw[hn,any_at (by simp;omega),getD_take (by omega),decide_eq_true c6];rfl
       rw[checkE,if_neg (by simp[c1]),if_neg (by omega),fieldsE_bad (by omega) he (fieldE_5 c4 hdup) (by omega)];rfl
      ·try simp only[toN]at c6
       refine gk_region env false [] [1,2,3,4,5] ?_
       refine gk_round (j+1) ?_
       refine ⟨by omega,hn.trans ?_⟩
       rw[any_at (by simp;omega),getD_take (by omega),decide_eq_false c6];rfl
     ·try simp only[toN]at c5
      have hdup:((d.fields.take i).any fun g=>decide (g.name=(d.fields.getD i default).name))=false:=by rw[hn,drop_all (by simp;omega)]
      refine gk_region env false [] [1,2,3,4,49] ?_
      refine gk_ifd (fun c7=> ?_) (fun c7=> ?_)
      ·try simp only[toN]at c7
       refine gk_region env false [] [1,2,3,4] ?_
       refine gk_ret env ?_
       rw[checkE,if_neg (by simp[c1]),if_neg (by omega),fieldsE_bad (by omega) he (fieldE_6 c4 hdup c7) (by omega)];rfl
      ·try simp only[toN]at c7
       refine gk_region env false [] [1,2,3,4,6] ?_
       refine gk_loop (α:=Nat) (fun k=>k≤(d.fields.getD i default).words.length∧wordsE (d.fields.getD i default).words 0=wordsE (d.fields.getD i default).words k) (fun k=>[(6,iG k)]) (fun _=>[]) (fun k=>(d.fields.getD i default).words.length-k) 0 ⟨by omega,rfl⟩ ?_
       rintro k ⟨hk,hk2⟩
       have hf2:=fun h:k<(d.fields.getD i default).words.length=>(hf (by omega)).at_ h
       refine gk_region env false [] [1,2,3,4,6,54] ?_
       refine gk_ifd (fun c8=> ?_) (fun c8=> ?_)
       ·try simp only[toN]at c8
        refine gk_region env false [.call (rword_ok ((d.fields.getD i default).words.getD k default) (hf2 (by omega)).1 (hf2 (by omega)).2)] [1,2,3,4,6,7] ?_
        refine gk_region env false [] [1,2,3,4,6,7,65] ?_
        refine gk_ifn (fun c9=> ?_) (fun c9=> ?_)
        ·try simp only[toN]at c9
         refine gk_region env false [] [1,2,3,4,6] ?_
         refine gk_ret env ?_
         have e:fieldE d.fields i=wordE ((d.fields.getD i default).words.getD k default):=(fieldE_w c4 hdup c7).trans (by rw[hk2,wordsE,if_pos (by omega),if_neg c9])
         rw[checkE,if_neg (by simp[c1]),if_neg (by omega),fieldsE_bad (by omega) he e c9];rfl
        ·try simp only[toN]at c9
         refine gk_region env false [] [1,2,3,4,6] ?_
         refine gk_round (k+1) ?_
         exact ⟨by omega,hk2.trans (by rw[wordsE,if_pos (by omega),if_pos (by omega)])⟩
       ·try simp only[toN]at c8
        refine gk_region env false [] [1,2,3] ?_
        refine gk_round (i+1) ?_
        exact ⟨by omega,fieldsE_on (by omega) he ((fieldE_w c4 hdup c7).trans (by rw[hk2,wordsE,if_neg (by omega)]))⟩
   ·try simp only[toN]at c3
    refine gk_region env false [] [2] ?_
    refine gk_ret env ?_
    rw[checkE,if_neg (by simp[c1]),if_neg (by omega),he,fieldsE,if_neg (by omega)];rfl
theorem rsize_ok (f:Fl) (hf:Good f):GC Tryz.prog 115 [flG f] (iG (sz f.words)):=by
 have hw:=hf.words
 refine gc_of_gk Tryz.func115 ?_
 refine gk_region env false [] [1,2] ?_
 refine gk_region env false [] [1,2,3] ?_
 refine gk_region env false [] [1,2,3,4] ?_
 refine gk_loop (α:=Nat×Nat) (fun x=>x.1≤f.words.length∧x.2*sz (f.words.drop x.1)=sz f.words) (fun x=>[(4,iG x.1),(3,iG x.2)]) (fun _=>[]) (fun x=>f.words.length-x.1) (0,1) ⟨by simp,by simp⟩ ?_
 rintro ⟨k,n⟩ ⟨hk,he⟩
 dsimp only at*
 refine gk_region env false [] [1,2,3,4,9] ?_
 refine gk_ifd (fun c1=> ?_) (fun c1=> ?_)
 ·try simp only[toN]at c1
  have hk2:=size_step hf (show k<f.words.length by omega) he
  have hk3:(n:Int)*((f.words.getD k default).length:Int)=((n*(f.words.getD k default).length:Nat):Int):=(Int.natCast_mul _ _).symm
  refine gk_region env false [] [1,2,3,4] ?_
  refine gk_region env false [] [1,2,3,4] ?_
  refine gk_round ((k+1,n*(f.words.getD k default).length)) ?_
  exact ⟨by simp only;omega,hk2.1⟩
 ·try simp only[toN]at c1
  refine gk_region env false [] [2] ?_
  refine gk_ret env ?_
  have e:k=f.words.length:=by omega
  subst e
  rw[List.drop_length]at he
  have e2:n=sz f.words:=by rw[←he];simp[sz]
  rw[e2];rfl
theorem rcount_ok (d:Dc) (hd:Fit d):GC Tryz.prog 82 [dcG d] (.tup [iG (countE d).1,iG (countE d).2]):=by
 have hd2:=hd.fields
 refine gc_of_gk Tryz.func82 ?_
 refine gk_region env false [] [1,2,3] ?_
 refine gk_region env false [.call (rcheck_ok d hd)] [1,2,3,4] ?_
 refine gk_region env false [] [1,2,3,4,10] ?_
 refine gk_ifn (fun c1=> ?_) (fun c1=> ?_)
 ·try simp only[toN]at c1
  refine gk_region env false [] [1,2,3] ?_
  refine gk_ret env ?_
  rw[countE,if_neg c1];rfl
 ·try simp only[toN]at c1
  have hr:=right_of c1
  refine gk_region env false [] [1,2,3,5] ?_
  refine gk_region env false [] [1,2,3,5,6] ?_
  refine gk_loop (α:=Nat×Nat) (fun x=>x.1≤d.fields.length∧x.2≤4096∧countF d.fields 0 1=countF d.fields x.1 x.2) (fun x=>[(6,iG x.1),(5,iG x.2)]) (fun _=>[]) (fun x=>d.fields.length-x.1) (0,1) ⟨by simp,by simp,rfl⟩ ?_
  rintro ⟨i,n⟩ ⟨hi,hn,he⟩
  dsimp only at*
  refine gk_region env false [] [1,2,3,5,6,16] ?_
  refine gk_ifd (fun c2=> ?_) (fun c2=> ?_)
  ·try simp only[toN]at c2
   have hs:=(hr.good _ (getD_mem (show i<d.fields.length by omega))).sz
   have hk:=count_step hn hs.2
   refine gk_region env false [.call (rsize_ok (d.fields.getD i default) (hr.good _ (getD_mem (by omega))))] [1,2,3,5,6] ?_
   refine gk_region env false [] [1,2,3,5,6,28] ?_
   refine gk_ifd (fun c3=> ?_) (fun c3=> ?_)
   ·try simp only[toN]at c3
    refine gk_region env false [] [1,2,3,5,6] ?_
    refine gk_ret env ?_
    rw[countE,if_pos c1,he,countF,if_pos (by omega),if_pos (by omega)];rfl
   ·try simp only[toN]at c3
    refine gk_region env false [] [1,2,3,5,6] ?_
    refine gk_round ((i+1,n*sz (d.fields.getD i default).words)) ?_
    refine ⟨by simp only;omega,by simp only;omega,he.trans ?_⟩
    rw[countF,if_pos (by omega),if_neg (by omega)]
  ·try simp only[toN]at c2
   refine gk_region env false [] [2,3] ?_
   refine gk_ret env ?_
   rw[countE,if_pos c1,he,countF,if_neg (by omega)];rfl
end Go.Gh
namespace Go.Gh
open Go Go.Proofs
set_option maxRecDepth 1000000
set_option maxHeartbeats 2000000
set_option linter.unusedSimpArgs false
set_option linter.unusedVariables false
set_option linter.unnecessarySimpa false
open Go.RowKit Go.Shelf
attribute [local go_sem] Oper.semAt_some
theorem keep_below {F:Fz} {w W:World} (ho:∀b o,F b o→(w.cell? ⟨b,o,none⟩).isSome=true) (h:Below w.heap.size w W):Keep F w F W:=by
 have hb:∀b o,F b o→W.heap[b]? =w.heap[b]? :=fun b o hf=>by
  obtain ⟨v,hv⟩:=Option.isSome_iff_exists.1 (ho b o hf)
  exact h.block b (World.block_lt_of_cell? w ⟨b,o,none⟩ hv)
 exact ⟨fun _ _ h=>h,fun b o hf=>by simp only[World.cell?,hb b o hf],fun b o hf=>szAt_of (hb b o hf)⟩
theorem vr_ep1 {F:Fz} {w:World} {x:D} {lb:Array Value} (h:VRs (fun _=>none) F w [.ep [x]] lb):∃b off v,lb= #[.pointer (some ⟨b,off,none⟩)]∧w.cell? ⟨b,off,none⟩=some v∧F b off∧DR F w x v:=by
 obtain ⟨l⟩:=lb
 have h1:=h.1
 match l,h1 with
 | [u],_=>
   have h2:=h.2 0 (.ep [x]) u rfl rfl
   obtain ⟨b,off,val,e,hw,hF,hd⟩:=h2.ep_inv
   subst e
   exact ⟨b,off,val 0,rfl,by have:=hw 0 x rfl;simpa using this,by have:=hF 0 x rfl;simpa using this,hd 0 x rfl⟩
def downL (n:Nat):List (Fin n):=(List.finRange n).reverse
theorem downL_length (n:Nat):(downL n).length=n:=by simp[downL]
theorem downL_at {n k:Nat} (hk:k<n):(downL n)[k]? =some ⟨n-1-k,by omega⟩:=by
 rw[downL,List.getElem?_reverse (by simpa using hk),List.length_finRange,List.getElem?_eq_getElem (by simp;omega)]
 simp
theorem take_at {α:Type} {l:List α} {k:Nat} {x:α} (h:l[k]? =some x):l.take (k+1)=l.take k++ [x]:=by
 have hk:=(List.getElem?_eq_some_iff.1 h).1
 rw[List.take_succ_eq_append_getElem hk,(List.getElem?_eq_some_iff.1 h).2]
set_option maxRecDepth 100000 in
set_option maxHeartbeats 4000000 in
theorem backF_in (n Bs off bk ob cap:Nat) (val:Nat→Nat→Value) (A:Option Addr) (F:Fz) (l:Nat) (J Jx:List (Fin n)→World→Prop) (hn:n≤1000) (W:World)
 (hY:∀pre (x:Fin n) W1,J pre W1→pre.length<n→YieldAt Fence.wide 0 Tryz.prog l #[.int .i64 ((x.1:Nat):Int),.agg #[val x.1 0,val x.1 1]] W1 fun e W'=>
  (e= .returned (.bool true)∧J (pre++ [x]) W'∧Keep F W1 F W')∨(e= .returned (.bool false)∧Jx (pre++ [x]) W'))
 (hBs:W.cell? ⟨Bs,off,none⟩=some (.slice A n cap)) (hFB:F Bs off) (hA:n≠0→A=some ⟨bk,ob,none⟩) (hc:∀i j,i<n→j<2→W.cell? ⟨bk,ob+i*2+j,none⟩=some (val i j)∧F bk (ob+i*2+j)) (h0:J [] W):
 CallsIn Fence.wide 1 Tryz.prog 144 (#[.func (.yield l) #[] #[]]++ #[.pointer (some ⟨Bs,off,none⟩)]) W fun e W'=>(∃v,e= .returned v)∧((∃xs,xs=downL n∧J xs W')∨(∃pre,True∧Jx pre W')):=by
 have HB:=Lib.hid hBs
 have HC:=Lib.hid hc
 have HA:=Lib.hid hA
 clear hBs hc hA
 refine callsIn_of_wp Tryz.func144 rfl trivial ?_ rfl
 simp only[Tryz.ntmps144,List.size_toArray,List.length_cons,List.length_nil,Nat.reduceAdd,Nat.reduceSub,Array.replicate_succ,Array.replicate_zero,List.push_toArray,List.append_toArray,List.nil_append,List.cons_append]
 have hBs:=HB.out
 gi_wp2
 gi_loopw [3] (fun i wr=>∃k:Nat,k≤n∧i= .int .i64 ((n:Int)-1-k)∧J ((downL n).take k) wr∧Keep F W F wr)
  (fun i _=>(RowKit.intOf i+1).toNat)
 case atStart=>exact ⟨0,Nat.zero_le _,by simp,by simpa using h0,Keep.refl _ _⟩
 case round=>
  obtain ⟨k,hk,rfl,hJs,hnx⟩:=hrel
  have hBs':=(hnx.same Bs off hFB).trans HB.out
  by_cases hlt:k<n
  ·have hAe:=HA.out (by omega)
   subst hAe
   obtain ⟨q,hq⟩:∃q:Nat,q=n-1-k:=⟨_,rfl⟩
   have hqi:(n:Int)-1-k=q:=by omega
   have hq1:q<n:=by omega
   have c1:wr.cell? ⟨bk,ob+q*2,none⟩=some (val q 0):=by
    obtain ⟨a,b⟩:=HC.out q 0 hq1 (by omega)
    exact (hnx.same _ _ b).trans a
   have c2:wr.cell? ⟨bk,ob+q*2+1,none⟩=some (val q 1):=by
    obtain ⟨a,b⟩:=HC.out q 1 hq1 (by omega)
    exact (hnx.same _ _ b).trans a
   have hx:(downL n)[k]? =some ⟨q,hq1⟩:=by rw[downL_at hlt];simp[hq]
   have hbs:=take_at hx
   rw[hqi]
   obtain ⟨fn,tmps,assign,body,hy,hR⟩:=hY _ ⟨q,hq1⟩ wr hJs (by rw[List.length_take,downL_length];omega)
   dsimp only at hy
   have HX:=Lib.hid hbs
   have HQ:=Lib.hid hqi
   have hq2:q+k+1=n:=by omega
   clear hbs hx hq hqi
   gi_wp2
   refine hR.mono ?_
   rintro e W3 (⟨rfl,hJ3,hk3⟩|⟨rfl,hJx3⟩)
   ·have hBs3:=(hk3.same Bs off hFB).trans hBs'
    gi_wp2
    go_roundw
    case rel=>exact ⟨k+1,by omega,by congr 1;omega,by rw[HX.out];exact hJ3,hnx.trans hk3⟩
    case measure=>simp[RowKit.intOf]
   ·gi_wp2
    refine bodyPost_ret (results_none rfl _ _ _) rfl ?_
    exact ⟨⟨_,rfl⟩,.inr ⟨_,trivial,hJx3⟩⟩
  ·obtain rfl:k=n:=by omega
   have e0:(k:Int)-1-k= -1:=by omega
   rw[e0]
   gi_wp2
   go_end0
   exact ⟨⟨_,rfl⟩,.inl ⟨_,rfl,by rw[List.take_of_length_le (by rw[downL_length];exact Nat.le_refl _)]at hJs;exact hJs⟩⟩
theorem backF_ok (fs:List Fl) (hn:fs.length≤1000):IterOK Tryz.prog 144 [.ep [.row default flC fs]] (fun k:Fin fs.length=>[iG ((k.1:Nat):Int),flG (fs.getD k.1 default)]) (downL fs.length):=by
 refine ⟨⟨_,_,Tryz.func144,rfl,rfl⟩,fun F w lb hg ho hv=> ?_⟩
 obtain ⟨Bs,off,v,rfl,hcb,hFB,hd⟩:=vr_ep1 hv
 obtain ⟨A,c,b,ob,es,val,rfl,hA,hc,hl,hw,hFc,hdr⟩:=(VR.d (ν:=fun _=>none) hd).row_inv
 have hat:∀k:Fin fs.length,fs[k.1]? =some (fs.getD k.1 default):=fun k=>by rw[List.getD_eq_getElem?_getD,List.getElem?_eq_getElem k.2];rfl
 have hes:∀k:Fin fs.length,es=2:=fun k=>by have:=hl _ (List.mem_of_getElem? (hat k));simpa [flC]using this.symm
 refine ⟨fun k=> #[.int .i64 ((k.1:Nat):Int),.agg #[val k.1 0,val k.1 1]],fun k=>⟨rfl,fun j g u h1 h2=> ?_⟩,fun l J Jx W hW _ _ hY h0=> ?_⟩
 ·have d0:=hdr k.1 _ 0 (.sc (.string (fs.getD k.1 default).name)) (hat k) rfl
  have d1:=hdr k.1 _ 1 (.row default wdC (fs.getD k.1 default).words) (hat k) rfl
  match j with
  |0=>simp at h1 h2;subst h1;subst h2;exact .d (.sc _ rfl)
  |1=>
   simp only[List.getElem?_cons_succ,List.getElem?_cons_zero,Option.some.injEq]at h1
   simp at h2
   subst h1;subst h2
   refine .agg _ _ rfl (fun u hu=> ?_) (fun j g u h1 h2=> ?_)
   ·simp at hu
    rcases hu with rfl|rfl
    ·exact d0.one
    ·exact d1.one
   ·match j with
    |0=>
     have h1:some (sG (fs.getD k.1 default).name)=some g:=h1
     have h2:some (val k.1 0)=some u:=by simpa using h2
     cases h1;cases h2;exact .d d0
    |1=>
     have h1:some (.d (.row default wdC (fs.getD k.1 default).words))=some g:=h1
     have h2:some (val k.1 1)=some u:=by simpa using h2
     cases h1;cases h2;exact .d d1
    |j+2=>simp at h1
  |j+2=>simp at h1
 ·have hk:=keep_below ho hW
  rw[downL_length]at hY
  exact backF_in fs.length Bs off b ob c val A F l J Jx hn W hY ((hk.same _ _ hFB).trans hcb) hFB (fun h=>hA (by intro e;rw[e]at h;exact h rfl)) (fun i j hi hj=>by
   have e2:=hes ⟨i,hi⟩
   subst e2
   match j,hj with
   |0,_=>exact ⟨(hk.same _ _ (hFc i _ 0 _ (hat ⟨i,hi⟩) rfl)).trans (hw i _ 0 (.sc (.string (fs.getD i default).name)) (hat ⟨i,hi⟩) rfl),hFc i _ 0 (.sc (.string (fs.getD i default).name)) (hat ⟨i,hi⟩) rfl⟩
   |1,_=>exact ⟨(hk.same _ _ (hFc i _ 1 _ (hat ⟨i,hi⟩) rfl)).trans (hw i _ 1 (.row default wdC (fs.getD i default).words) (hat ⟨i,hi⟩) rfl),hFc i _ 1 (.row default wdC (fs.getD i default).words) (hat ⟨i,hi⟩) rfl⟩) h0
theorem back_ok (fs:List Fl):GC Tryz.prog 111 [.d (.row default flC fs)] (.fn (.func 144) [] [.ep [.row default flC fs]]):=by
 refine gc_of_gk Tryz.func111 ?_
 refine gk_region env false [] [1,2] ?_
 refine gk_box 0 ?_
 refine gk_region env false [] [2] ?_
 refine gk_ret env ?_
 rfl
theorem below_grown {w w':World} (h:Below w.heap.size w w'):w.grownBy w' none:=⟨h.os,h.tape,h.output,h.size,fun k hk _=>h.block k hk⟩
end Go.Gh
namespace Go.Gh
open Go Go.Proofs
set_option maxRecDepth 1000000
set_option maxHeartbeats 2000000
set_option linter.unusedSimpArgs false
set_option linter.unusedVariables false
set_option linter.unnecessarySimpa false
open Go.RowKit
end Go.Gh
namespace Go.Gh
open Go Go.Proofs
set_option maxRecDepth 1000000
set_option maxHeartbeats 2000000
set_option linter.unusedSimpArgs false
set_option linter.unusedVariables false
set_option linter.unnecessarySimpa false
open Go.RowKit
structure Pn where
 kind:ByteArray
 names:List ByteArray
 texts:List ByteArray
deriving DecidableEq
instance :Inhabited Pn:=⟨⟨⟨#[]⟩,[],[]⟩⟩
def pnC (p:Pn):List D:=[.sc (.string p.kind),rowSD p.names,rowSD p.texts]
abbrev pnG (p:Pn):G:= .agg [sG p.kind,rowS p.names,rowS p.texts]
theorem ent_pn0:Ent (.agg [sG ⟨#[]⟩,.d (.sc (.slice none 0 0)),.d (.sc (.slice none 0 0))]) (pnG ⟨⟨#[]⟩,[],[]⟩):=Ent.agg ⟨Ent.refl _,Ent.nil,Ent.nil,trivial⟩
structure Rs where
 at_:Nat
 names:List ByteArray
 texts:List ByteArray
def rstep (fs:List Fl) (s:Rs) (k:Fin fs.length):Rs:=⟨s.at_/sz (fs.getD k.1 default).words,s.names.set k.1 (fs.getD k.1 default).name,s.texts.set k.1 (textF (fs.getD k.1 default) (s.at_ % sz (fs.getD k.1 default).words))⟩
def rinit (n i:Nat):Rs:=⟨i,List.replicate n default,List.replicate n default⟩
def rfold (fs:List Fl) (i:Nat) (pre:List (Fin fs.length)):Rs:=pre.foldl (rstep fs) (rinit fs.length i)
theorem rfold_step (fs:List Fl) (i:Nat) (pre:List (Fin fs.length)) (k:Fin fs.length):rfold fs i (pre++ [k])=rstep fs (rfold fs i pre) k:=by simp[rfold]
theorem rfold_ok (fs:List Fl) (i:Nat) (pre:List (Fin fs.length)):(rfold fs i pre).at_≤i∧(rfold fs i pre).names.length=fs.length∧(rfold fs i pre).texts.length=fs.length:=by
 have key:∀(pre:List (Fin fs.length)) (s:Rs),s.at_≤i∧s.names.length=fs.length∧s.texts.length=fs.length→(pre.foldl (rstep fs) s).at_≤i∧(pre.foldl (rstep fs) s).names.length=fs.length∧(pre.foldl (rstep fs) s).texts.length=fs.length:=by
  intro pre
  induction pre with
  |nil=>intro s h;exact h
  |cons k l ih=>
   intro s h
   refine ih _ ⟨Nat.le_trans (Nat.div_le_self _ _) h.1,by simp[rstep,h.2.1],by simp[rstep,h.2.2]⟩
 exact key pre _ ⟨Nat.le_refl _,by simp[rinit],by simp[rinit]⟩
def readP (d:Dc) (i:Nat):Pn:=⟨d.kind,(rfold d.fields i (downL d.fields.length)).names,(rfold d.fields i (downL d.fields.length)).texts⟩
def readE (d:Dc) (i:Int):Pn×Int:=if (countE d).2=0 then if 0≤i∧i<(countE d).1 then (readP d i.toNat,0)else (⟨⟨#[]⟩,[],[]⟩,4)else (⟨⟨#[]⟩,[],[]⟩,(countE d).2)
theorem countE_0 {d:Dc} (h:(countE d).2=0):checkE d=0:=by
 unfold countE at h
 split at h
 ·assumption
 ·exact h
theorem countF_le {fs:List Fl} :∀(k i n:Nat),fs.length-i=k→n≤4096→0≤(countF fs i n).1∧(countF fs i n).1≤4096:=by
 intro k
 induction k with
 |zero=>intro i n h hn;rw[countF,if_neg (by omega)];exact ⟨by simp,by simp only;omega⟩
 |succ k ih=>
  intro i n h hn
  rw[countF,if_pos (by omega)]
  split
  ·exact ⟨by simp,by simp⟩
  ·exact ih (i+1) _ (by omega) (by omega)
theorem countE_le (d:Dc):0≤(countE d).1∧(countE d).1≤4096:=by
 unfold countE
 split
 ·exact countF_le _ 0 1 rfl (by omega)
 ·exact ⟨by simp,by simp⟩
theorem read_ok (d:Dc) (hd:Fit d) (i:Int):GC Tryz.prog 80 [dcG d,iG i] (.tup [pnG (readE d i).1,iG (readE d i).2]):=by
 have hd2:=hd.fields
 have hcl:=countE_le d
 refine gc_of_gk Tryz.func80 ?_
 refine gk_region env false [] [2,3,4,5] ?_
 refine gk_region env false [.call (count_ok d hd)] [2,3,4,5,6,7] ?_
 refine gk_region env false [] [2,3,4,5,7,26] ?_
 refine gk_if (fun c1=> ?_) (fun c1=> ?_)
 ·try simp only[bb,toN]at c1
  refine gk_region env false [] [2,3,4,5,7] ?_
  refine gk_region env false [] [2,3,4,5,7,28] ?_
  refine gk_ifn (fun c2=> ?_) (fun c2=> ?_)
  ·try simp only[toN]at c2
   refine gk_region env false [] [2,3,4,5] ?_
   refine gk_retE env ?_
   rw[readE,if_pos c1.1,if_neg (by omega)];exact Ent.tup ⟨ent_pn0,Ent.refl _,trivial⟩
  ·try simp only[toN]at c2
   exact absurd c2 (by decide)
 ·try simp only[bb,toN]at c1
  refine gk_region env false [] [2,3,4,5,7,28] ?_
  refine gk_ifn (fun c3=> ?_) (fun c3=> ?_)
  ·try simp only[toN]at c3
   refine gk_region env false [] [2,3,4,5] ?_
   refine gk_retE env ?_
   rw[readE,if_neg c3];exact Ent.tup ⟨ent_pn0,Ent.refl _,trivial⟩
  ·try simp only[toN]at c3
   have hr:=right_of (countE_0 c3)
   have hin:0≤i∧i<(countE d).1:=by omega
   obtain ⟨m,rfl⟩:∃m:Nat,i=m:=⟨i.toNat,by omega⟩
   have hmM:m≤4096:=by omega
   refine gk_region env false [.el default strC (List.replicate d.fields.length default),.el default strC (List.replicate d.fields.length default)] [2,3,4,5,8] ?_ (hp:=(by simp only[AllP,bb,toN];repeat' first|exact trivial|exact EntL.refl _|exact rfl|omega|apply And.intro|intro _|(rw[rowL,List.map_replicate];rfl)))
   refine gk_region env false [.call (back_ok d.fields)] [3,4,5,8,44] ?_
   refine gk_range 6 6 (fun k:Fin d.fields.length=>[iG ((k.1:Nat):Int),flG (d.fields.getD k.1 default)]) (downL d.fields.length) (fun pre=>[(0,some (.box [sG d.kind,.d (.row default flC d.fields)])),(1,some (.box [iG ((rfold d.fields m pre).at_:Nat)])),(2,some (.box [sG ⟨#[]⟩,.d (.sc (.slice none 0 0)),.d (.sc (.slice none 0 0))])),(3,some (.row 9 1 default strC (rfold d.fields m pre).names 0)),(4,some (.row 9 1 default strC (rfold d.fields m pre).texts 0)),(5,some (.box [sG d.kind,.sl 3 1 0 d.fields.length,.sl 4 1 0 d.fields.length]))]) (backF_ok d.fields hd2) ?_ ?_ (hps:=by simp only[AllP];repeat' first|exact trivial|exact rfl|apply And.intro|(simp[rfold,rinit];done))
   ·rintro pre k hpre
    obtain ⟨s,hs⟩:∃s,s=rfold d.fields m pre:=⟨_,rfl⟩
    have hs3:=rfold_ok d.fields m pre
    have hst:=rfold_step d.fields m pre k
    rw[←hs]at hs3 hst
    rw[←hs]
    have hg:=hr.good _ (getD_mem k.2)
    have hgs:=hg.sz
    have hml:=Nat.mod_le s.at_ (sz (d.fields.getD k.1 default).words)
    have hk:=k.2
    have hem:((s.at_ % sz (d.fields.getD k.1 default).words:Nat):Int)=(s.at_:Int) % (sz (d.fields.getD k.1 default).words:Int):=Int.natCast_emod _ _
    have hed:(s.at_:Int)/(sz (d.fields.getD k.1 default).words:Int)=((s.at_/sz (d.fields.getD k.1 default).words:Nat):Int):=(Int.natCast_ediv _ _).symm
    have hdl:=Nat.div_le_self s.at_ (sz (d.fields.getD k.1 default).words)
    refine gk_region env false [] [3,8,9,46] ?_
    refine gk_region env false [] [3,8,9,10] ?_
    refine gk_asn ?_
    refine gk_region env false [.call (size_ok (d.fields.getD k.1 default) hg),.call (text_ok (d.fields.getD k.1 default) hg (s.at_ % sz (d.fields.getD k.1 default).words) (by omega)),.el default strC (s.names.set k.1 (d.fields.getD k.1 default).name),.el default strC (s.texts.set k.1 (textF (d.fields.getD k.1 default) (s.at_ % sz (d.fields.getD k.1 default).words)))] [3,10] ?_ (hp:=(by simp only[AllP,bb,toN,Nat.zero_add];repeat' first|exact trivial|exact EntL.refl _|exact rfl|omega|apply And.intro|intro _|(simp;done)|exact (putD_str (by omega) _).symm|(simp[EntL,hem];done)))
    refine gk_region env false [.call (size_ok (d.fields.getD k.1 default) hg)] [] ?_ (hp:=(by simp only[AllP,bb,toN,hed];generalize s.at_/sz (d.fields.getD k.1 default).words=z at hdl⊢;repeat' first|exact trivial|exact EntL.refl _|exact rfl|omega|apply And.intro|intro _))
    rw[hst]
    exact gk_back (hps:=by simp[AllP,rstep])
   ·refine gk_region env false [] [4,5] ?_
    refine gk_ret env ?_ (hp:=by have:=rfold_ok d.fields m (downL d.fields.length);simp only[AllP];omega)
    rw[readE,if_pos c3,if_pos hin];rfl
end Go.Gh
namespace Go.Gh
open Go Go.Proofs
set_option maxRecDepth 1000000
set_option maxHeartbeats 2000000
set_option linter.unusedSimpArgs false
set_option linter.unusedVariables false
set_option linter.unnecessarySimpa false
open Go.RowKit
theorem take_getD {α:Type} [Inhabited α] {l:List α} {k:Nat} (h:k<l.length):l.take (k+1)=l.take k++ [l.getD k default]:=by
 rw[List.take_succ_eq_append_getElem h,List.getD_eq_getElem?_getD,List.getElem?_eq_getElem h];rfl
end Go.Gh
namespace Go.Gh
open Go Go.Proofs
set_option maxRecDepth 1000000
set_option maxHeartbeats 2000000
set_option linter.unusedSimpArgs false
set_option linter.unusedVariables false
set_option linter.unnecessarySimpa false
open Go.RowKit
def fewS (s:ByteArray):Bool:=decide (s.size≤100)
def fewW (w:List ByteArray):Bool:=decide (w.length≤6)&&w.all fewS
def fewF (f:Fl):Bool:=(decide (f.words.length≤10)&&decide (f.name.size≤100))&&f.words.all fewW
def fewD (d:Dc):Bool:=(decide (d.fields.length≤14)&&decide (d.kind.size≤100))&&d.fields.all fewF
theorem all_at {α:Type} [Inhabited α] {l:List α} {i:Nat} (h:i<l.length) (p:α→Bool):(l.drop i).all p=(p (l.getD i default)&&(l.drop (i+1)).all p):=by
 rw[drop_at h,List.all_cons]
theorem all_end {α:Type} {l:List α} {i:Nat} (h:l.length≤i) (p:α→Bool):(l.drop i).all p=true:=by rw[List.drop_eq_nil_of_le h];rfl
theorem fewS_on {s:ByteArray} (h:(s.size:Int)≤100):fewS s=true:=decide_eq_true (by omega)
theorem fewS_off {s:ByteArray} (h:(100:Int)<s.size):fewS s=false:=decide_eq_false (by omega)
theorem fewW_on {w:List ByteArray} (h:(w.length:Int)≤6) (h2:w.all fewS=true):fewW w=true:=by rw[fewW,decide_eq_true (by omega),h2];rfl
theorem fewW_off {w:List ByteArray} (h:(6:Int)<w.length∨w.all fewS=false):fewW w=false:=by
 rcases h with h|h
 ·rw[fewW,decide_eq_false (by omega)];rfl
 ·rw[fewW,h,Bool.and_false]
theorem fewF_on {f:Fl} (h:(f.words.length:Int)≤10∧(f.name.size:Int)≤100) (h2:f.words.all fewW=true):fewF f=true:=by rw[fewF,decide_eq_true (by omega),decide_eq_true (by omega),h2];rfl
theorem fewF_off {f:Fl} (h:((10:Int)<f.words.length∨(100:Int)<f.name.size)∨f.words.all fewW=false):fewF f=false:=by
 rcases h with (h|h)|h
 ·rw[fewF,decide_eq_false (by omega)];rfl
 ·rw[fewF,show decide (f.name.size≤100)=false from decide_eq_false (by omega),Bool.and_false];rfl
 ·rw[fewF,h,Bool.and_false]
theorem fewD_on {d:Dc} (h:(d.fields.length:Int)≤14∧(d.kind.size:Int)≤100) (h2:d.fields.all fewF=true):fewD d=true:=by rw[fewD,decide_eq_true (by omega),decide_eq_true (by omega),h2];rfl
theorem fewD_off {d:Dc} (h:((14:Int)<d.fields.length∨(100:Int)<d.kind.size)∨d.fields.all fewF=false):fewD d=false:=by
 rcases h with (h|h)|h
 ·rw[fewD,decide_eq_false (by omega)];rfl
 ·rw[fewD,show decide (d.kind.size≤100)=false from decide_eq_false (by omega),Bool.and_false];rfl
 ·rw[fewD,h,Bool.and_false]
theorem few_fit {d:Dc} (h:fewD d=true):Fit d:=by
 simp only[fewD,fewF,fewW,fewS,Bool.and_eq_true,decide_eq_true_eq,List.all_eq_true]at h
 refine ⟨by omega,by omega,fun f hf=> ?_⟩
 have h1:=h.2 f hf
 exact ⟨by omega,by omega,fun w hw=>by have:=h1.2 w hw;omega,fun w hw s hs=>by have:=(h1.2 w hw).2 s hs;omega⟩
theorem few_ok (d:Dc):GC Tryz.prog 50 [dcG d] (bG (fewD d)):=by
 refine gc_of_gk Tryz.func50 ?_
 refine gk_region env false [] [1,2] ?_
 refine gk_region env false [] [1,2,16] ?_
 refine gk_if (fun c1=> ?_) (fun c1=> ?_)
 ·try simp only[bb,toN]at c1
  refine gk_region env false [] [1,2] ?_
  refine gk_ret env ?_
  rw[fewD_off (.inl (by omega))];rfl
 ·try simp only[bb,toN]at c1
  refine gk_region env false [] [1,2,3] ?_
  refine gk_loop (α:=Nat) (fun i=>i≤d.fields.length∧d.fields.all fewF=(d.fields.drop i).all fewF) (fun i=>[(3,iG i)]) (fun _=>[]) (fun i=>d.fields.length-i) 0 ⟨by omega,rfl⟩ ?_
  rintro i ⟨hi,he⟩
  refine gk_region env false [] [1,2,3,21] ?_
  refine gk_ifd (fun c2=> ?_) (fun c2=> ?_)
  ·try simp only[toN]at c2
   refine gk_region env false [] [1,2,3,41] ?_
   refine gk_if (fun c3=> ?_) (fun c3=> ?_)
   ·try simp only[bb,toN]at c3
    refine gk_region env false [] [1,2,3] ?_
    refine gk_ret env ?_
    have e:d.fields.all fewF=false:=by rw[he,all_at (by omega),fewF_off (.inl (by omega))];rfl
    rw[fewD_off (.inr e)];rfl
   ·try simp only[bb,toN]at c3
    refine gk_region env false [] [1,2,3,4] ?_
    refine gk_loop (α:=Nat) (fun k=>k≤(d.fields.getD i default).words.length∧(d.fields.getD i default).words.all fewW=((d.fields.getD i default).words.drop k).all fewW) (fun k=>[(4,iG k)]) (fun _=>[]) (fun k=>(d.fields.getD i default).words.length-k) 0 ⟨by omega,rfl⟩ ?_
    rintro k ⟨hk,hk2⟩
    refine gk_region env false [] [1,2,3,4,50] ?_
    refine gk_ifd (fun c4=> ?_) (fun c4=> ?_)
    ·try simp only[toN]at c4
     refine gk_region env false [] [1,2,3,4,5] ?_
     refine gk_region env false [] [1,2,3,4,5,65] ?_
     refine gk_ifd (fun c5=> ?_) (fun c5=> ?_)
     ·try simp only[toN]at c5
      refine gk_region env false [] [1,2,3,4,5] ?_
      refine gk_ret env ?_
      have e2:(d.fields.getD i default).words.all fewW=false:=by rw[hk2,all_at (by omega),fewW_off (.inl (by omega))];rfl
      have e:d.fields.all fewF=false:=by rw[he,all_at (by omega),fewF_off (.inr e2)];rfl
      rw[fewD_off (.inr e)];rfl
     ·try simp only[toN]at c5
      refine gk_region env false [] [1,2,3,4,5,6] ?_
      refine gk_loop (α:=Nat) (fun j=>j≤((d.fields.getD i default).words.getD k default).length∧((d.fields.getD i default).words.getD k default).all fewS=(((d.fields.getD i default).words.getD k default).drop j).all fewS) (fun j=>[(6,iG j)]) (fun _=>[]) (fun j=>((d.fields.getD i default).words.getD k default).length-j) 0 ⟨by omega,rfl⟩ ?_
      rintro j ⟨hj,hj2⟩
      refine gk_region env false [] [1,2,3,4,5,6,69] ?_
      refine gk_ifd (fun c6=> ?_) (fun c6=> ?_)
      ·try simp only[toN]at c6
       refine gk_region env false [] [1,2,3,4,5,6,77] ?_
       refine gk_ifd (fun c7=> ?_) (fun c7=> ?_)
       ·try simp only[toN]at c7
        refine gk_region env false [] [1,2,3,4,5,6] ?_
        refine gk_ret env ?_
        have e3:((d.fields.getD i default).words.getD k default).all fewS=false:=by rw[hj2,all_at (by omega),fewS_off (by omega)];rfl
        have e2:(d.fields.getD i default).words.all fewW=false:=by rw[hk2,all_at (by omega),fewW_off (.inr e3)];rfl
        have e:d.fields.all fewF=false:=by rw[he,all_at (by omega),fewF_off (.inr e2)];rfl
        rw[fewD_off (.inr e)];rfl
       ·try simp only[toN]at c7
        refine gk_region env false [] [1,2,3,4,5,6] ?_
        refine gk_round (j+1) ?_
        refine ⟨by omega,hj2.trans ?_⟩
        rw[all_at (by omega),fewS_on (by omega)];rfl
      ·try simp only[toN]at c6
       refine gk_region env false [] [1,2,3,4] ?_
       refine gk_round (k+1) ?_
       refine ⟨by omega,hk2.trans ?_⟩
       rw[all_at (by omega),fewW_on (by omega) (by rw[hj2,all_end (by omega)])];rfl
    ·try simp only[toN]at c4
     refine gk_region env false [] [1,2,3] ?_
     refine gk_round (i+1) ?_
     refine ⟨by omega,he.trans ?_⟩
     rw[all_at (by omega),fewF_on (by omega) (by rw[hk2,all_end (by omega)])];rfl
  ·try simp only[toN]at c2
   refine gk_region env false [] [2] ?_
   refine gk_ret env ?_
   rw[fewD_on (by omega) (by rw[he,all_end (by omega)])];rfl
end Go.Gh
namespace Go.Gh
open Go Go.Proofs
set_option maxRecDepth 1000000
set_option maxHeartbeats 2000000
set_option linter.unusedSimpArgs false
set_option linter.unusedVariables false
set_option linter.unnecessarySimpa false
open Go.RowKit
theorem ofL_append (a b:List UInt8):ofL (a++b)=ofL a++ofL b:=by
 apply ByteArray.ext
 rw[ByteArray.data_append]
 apply Array.ext'
 simp[ofL]
theorem wordsAt_getD {ws:List (List ByteArray)} {i:Nat} :∀ {k:Nat},k<ws.length→(wordsAt ws i).getD k default=(ws.getD k default).getD (i/sz (ws.drop (k+1)) % (ws.getD k default).length) default:=by
 induction ws with
 |nil=>intro k h;simp at h
 |cons w ws ih=>
  intro k h
  cases k with
  |zero=>rfl
  |succ k=>exact ih (by simpa using h)
theorem join_snoc (sep y:List UInt8):∀(xs:List (List UInt8)),xs≠ []→Lib.join (xs++ [y]) sep=Lib.join xs sep++sep++y:=by
 intro xs
 match xs with
 | []=>intro h;exact absurd rfl h
 | [x]=>intro _;simp[Lib.join,List.intercalate,List.intersperse]
 |x::z::l=>
  intro _
  have ih:=join_snoc sep y (z::l) (by simp)
  have e1:Lib.join (x::z::l) sep=x++sep++Lib.join (z::l) sep:=by simp[Lib.join,List.intercalate,List.intersperse]
  have e2:Lib.join (x::z::l++ [y]) sep=x++sep++Lib.join (z::l++ [y]) sep:=by simp[Lib.join,List.intercalate,List.intersperse]
  rw[e1,e2,ih];simp
theorem joinS_snoc {xs:List ByteArray} (h:xs≠ []) (y:ByteArray):joinS (xs++ [y]) sp=joinS xs sp++sp++y:=by
 show ofL _=ofL _++sp++y
 rw[List.map_append,List.map_cons,List.map_nil,join_snoc _ _ _ (by simpa using h),ofL_append,ofL_append,ofL_bs,ofL_bs]
theorem joinS_one (y:ByteArray):joinS [y] sp=joinS [] sp++y:=by
 show ofL (Lib.join [bs y] _)=ofL (Lib.join [] _)++y
 have e1:Lib.join [bs y] (bs sp)=bs y:=by simp[Lib.join,List.intercalate,List.intersperse]
 have e2:Lib.join [] (bs sp)= []:=by simp[Lib.join]
 rw[e1,e2,ofL_bs]
 apply ByteArray.ext
 rw[ByteArray.data_append]
 simp[ofL]
theorem joinS_size {xs:List ByteArray} (h:∀x,x∈xs→x.size≤20):(joinS xs sp).size≤2000*xs.length:=by
 have:=join_length (bs sp) (by simp[bs]) (xs.map bs) fun x hx=>by
  obtain ⟨s,hs,rfl⟩:=List.mem_map.1 hx
  rw[bs_size];have:=h s hs;omega
 rw[List.length_map]at this
 show (Lib.join (xs.map bs) (bs sp)).toArray.size≤_
 simpa using this
theorem rtext_ok (f:Fl) (hf:Good f) (i:Nat) (hi:i<sz f.words):GC Tryz.prog 175 [flG f,iG i] (sG (textF f i)):=by
 have hw:=hf.words
 have hsz:=hf.sz
 refine gc_of_gk Tryz.func175 ?_
 refine gk_region env false [] [1,2,4] ?_
 refine gk_region env false [.call (rsize_ok f hf)] [1,2,4,5] ?_
 refine gk_region env false [] [1,2,4,5,6] ?_
 refine gk_region env false [] [1,2,4,5,6,7] ?_
 refine gk_loop (α:=Nat) (fun k=>k≤f.words.length) (fun k=>[(7,iG k),(5,iG (sz (f.words.drop k))),(1,iG ((i % sz (f.words.drop k):Nat))),(6,sG (joinS ((wordsAt f.words i).take k) sp))]) (fun _=>[]) (fun k=>f.words.length-k) 0 (Nat.zero_le _) ?_ (hp:=by simp[AllP,Nat.mod_eq_of_lt hi];rfl)
 rintro k hk
 refine gk_region env false [] [1,2,4,5,6,7,15] ?_
 refine gk_ifd (fun c1=> ?_) (fun c1=> ?_)
 ·try simp only[toN]at c1
  have hk1:k<f.words.length:=by omega
  obtain ⟨w1,w2,w3,_⟩:=wordE_0 (hf.at_ hk1)
  have hz:=sz_at hk1
  have h1:=hf.drop (k+1)
  have hwa:=wordsAt_getD (i:=i) hk1
  have hat:i % sz (f.words.drop k)/sz (f.words.drop (k+1))=i/sz (f.words.drop (k+1)) % (f.words.getD k default).length:=by rw[hz];exact Nat.mod_mul_left_div_self ..
  have har:i % sz (f.words.drop k) % sz (f.words.drop (k+1))=i % sz (f.words.drop (k+1)):=by rw[hz];exact Nat.mod_mul_left_mod ..
  have hr:(sz (f.words.drop k):Int)/((f.words.getD k default).length:Int)=(sz (f.words.drop (k+1)):Int):=by rw[hz,Int.natCast_mul,Int.mul_ediv_cancel_left _ (by omega)]
  have hlt:=Nat.mod_lt (i/sz (f.words.drop (k+1))) (show 0<(f.words.getD k default).length by omega)
  rw[←hat]at hlt hwa
  have hq:((i % sz (f.words.drop k):Nat):Int)/(sz (f.words.drop (k+1)):Int)=((i % sz (f.words.drop k)/sz (f.words.drop (k+1)):Nat):Int):=(Int.natCast_ediv _ _).symm
  have hm:((i % sz (f.words.drop k):Nat):Int) % (sz (f.words.drop (k+1)):Int)=((i % sz (f.words.drop (k+1)):Nat):Int):=by rw[←Int.natCast_emod,har]
  have htk:(wordsAt f.words i).take (k+1)=(wordsAt f.words i).take k++ [(wordsAt f.words i).getD k default]:=take_getD (by rw[wordsAt_length];exact hk1)
  have hjs:=joinS_size (xs:=(wordsAt f.words i).take k) fun x hx=>validS_size (wordsAt_mem hf.each (List.mem_of_mem_take hx))
  have htl:((wordsAt f.words i).take k).length=k:=by rw[List.length_take,wordsAt_length];omega
  rw[htl]at hjs
  have hws:((f.words.getD k default).getD (i % sz (f.words.drop k)/sz (f.words.drop (k+1))) default).size≤20:=validS_size (w3 _ (getD_mem hlt))
  have hml:i % sz (f.words.drop k)≤i:=Nat.mod_le _ _
  have hzl:sz (f.words.drop (k+1))≤65536:=by have h2:=sz_range (ws:=f.words.drop (k+1)) (fun w hw=>hf.each w (List.mem_of_mem_drop hw));have h3:4^(f.words.drop (k+1)).length≤4^8:=Nat.pow_le_pow_right (by omega) (by rw[List.length_drop];omega);omega
  refine gk_region env false [] [1,2,4,5,6,7,8] ?_
  refine gk_region env false [] [1,2,4,5,6,7,8] ?_
  simp only[Int.toNat_natCast,hr]
  have hsp1:(ByteArray.mk #[32]).size=1:=rfl
  refine gk_region env false [] [1,2,4,5,6,7,8,29] ?_
  refine gk_ifd (fun c2=> ?_) (fun c2=> ?_)
  ·try simp only[toN]at c2
   have hj:joinS ((wordsAt f.words i).take k) sp++⟨#[32]⟩++(f.words.getD k default).getD (i % sz (f.words.drop k)/sz (f.words.drop (k+1))) default=joinS ((wordsAt f.words i).take (k+1)) sp:=by rw[htk,joinS_snoc (by intro e;rw[e]at htl;simp at htl;omega),hwa]
   refine gk_region env false [] [1,2,4,5,6,7,8] ?_ (hp:=(by simp only[AllP];omega))
   refine gk_region env false [] [1,2,4,5,6,7] ?_ (hp:=(by simp only[AllP,bb,toN,hq,ByteArray.size_append,hsp1];generalize i % sz (f.words.drop k)/sz (f.words.drop (k+1))=y at hlt hws⊢;generalize i % sz (f.words.drop k)=A at hml⊢;repeat' first|exact trivial|exact EntL.refl _|exact rfl|omega|apply And.intro|intro _))
   refine gk_region env false [] [1,2,4,5,6,7] ?_ (hp:=(by simp only[AllP,bb,toN];generalize i % sz (f.words.drop k)=A at hml⊢;repeat' first|exact trivial|exact EntL.refl _|exact rfl|omega|apply And.intro|intro _))
   refine gk_region env false [] [1,2,4,5,6,7] ?_
   refine gk_round (k+1) ?_ (hp:=by simp only[AllP,hq,hm,Int.toNat_natCast,hj];simp)
   omega
  ·try simp only[toN]at c2
   have hj:joinS ((wordsAt f.words i).take k) sp++(f.words.getD k default).getD (i % sz (f.words.drop k)/sz (f.words.drop (k+1))) default=joinS ((wordsAt f.words i).take (k+1)) sp:=by
    rw[htk,←hwa]
    obtain rfl:k=0:=by omega
    exact (joinS_one _).symm
   refine gk_region env false [] [1,2,4,5,6,7] ?_ (hp:=(by simp only[AllP,bb,toN,hq,ByteArray.size_append,hsp1];generalize i % sz (f.words.drop k)/sz (f.words.drop (k+1))=y at hlt hws⊢;generalize i % sz (f.words.drop k)=A at hml⊢;repeat' first|exact trivial|exact EntL.refl _|exact rfl|omega|apply And.intro|intro _))
   refine gk_region env false [] [1,2,4,5,6,7] ?_ (hp:=(by simp only[AllP,bb,toN];generalize i % sz (f.words.drop k)=A at hml⊢;repeat' first|exact trivial|exact EntL.refl _|exact rfl|omega|apply And.intro|intro _))
   refine gk_region env false [] [1,2,4,5,6,7] ?_
   refine gk_round (k+1) ?_ (hp:=by simp only[AllP,hq,hm,Int.toNat_natCast,hj];simp)
   omega
 ·try simp only[toN]at c1
  refine gk_region env false [] [4] ?_
  refine gk_ret env ?_
  obtain rfl:k=f.words.length:=by omega
  rw[textF,List.take_of_length_le (by rw[wordsAt_length];omega)];rfl
end Go.Gh
namespace Go.Gh
open Go Go.Proofs
set_option maxRecDepth 1000000
set_option maxHeartbeats 2000000
set_option linter.unusedSimpArgs false
set_option linter.unusedVariables false
set_option linter.unnecessarySimpa false
open Go.RowKit
end Go.Gh
namespace Go.Gh
open Go Go.Proofs
set_option maxRecDepth 1000000
set_option maxHeartbeats 2000000
set_option linter.unusedSimpArgs false
set_option linter.unusedVariables false
set_option linter.unnecessarySimpa false
open Go.RowKit
def tot:List Fl→Nat
 | []=>1
 |f::fs=>sz f.words*tot fs
def readT:List Fl→Nat→List ByteArray
 | [],_=>[]
 |f::fs,i=>textF f (i/tot fs % sz f.words)::readT fs i
theorem readT_length (fs:List Fl) (i:Nat):(readT fs i).length=fs.length:=by
 induction fs with
 |nil=>rfl
 |cons f fs ih=>simp[readT,ih]
theorem tot_at {fs:List Fl} {k:Nat} (h:k<fs.length):tot (fs.drop k)=sz (fs.getD k default).words*tot (fs.drop (k+1)):=by rw[drop_at h];rfl
theorem tot_pos {fs:List Fl} (h:∀f,f∈fs→Good f):1≤tot fs:=by
 induction fs with
 |nil=>exact Nat.le_refl _
 |cons f fs ih=>exact Nat.mul_pos (h f List.mem_cons_self).sz.1 (ih fun x hx=>h x (List.mem_cons_of_mem _ hx))
theorem rfold_end (fs:List Fl) (i:Nat):∀m,m≤fs.length→rfold fs i ((downL fs.length).take m)=
 ⟨i/tot (fs.drop (fs.length-m)),List.replicate (fs.length-m) default++(fs.drop (fs.length-m)).map (·.name),List.replicate (fs.length-m) default++readT (fs.drop (fs.length-m)) i⟩:=by
 intro m
 induction m with
 |zero=>intro _;simp[rfold,rinit,tot,readT]
 |succ m ih=>
  intro hm
  have hx:=downL_at (n:=fs.length) (k:=m) (by omega)
  rw[take_at hx,rfold_step,ih (by omega)]
  have hk:fs.length-1-m<fs.length:=by omega
  have e1:fs.length-(m+1)=fs.length-1-m:=by omega
  have e2:fs.length-m=fs.length-1-m+1:=by omega
  rw[e1,e2]
  simp only[rstep]
  generalize fs.length-1-m=k at hk
  have hs:∀(A:List ByteArray) (s:ByteArray),(List.replicate (k+1) default++A).set k s=List.replicate k default++s::A:=fun A s=>by
   rw[List.replicate_succ',List.append_assoc,List.set_append_right _ _ (by simp)]
   simp
  have hd:readT (fs.drop k) i=textF (fs.getD k default) (i/tot (fs.drop (k+1)) % sz (fs.getD k default).words)::readT (fs.drop (k+1)) i:=by rw[drop_at hk];rfl
  have hn:(fs.drop k).map (·.name)=(fs.getD k default).name::(fs.drop (k+1)).map (·.name):=by rw[drop_at hk];rfl
  simp only[hs]
  rw[hd,hn,tot_at hk,Nat.div_div_eq_div_mul,Nat.mul_comm]
theorem readP_eq (d:Dc) (i:Nat):readP d i=⟨d.kind,d.fields.map (·.name),readT d.fields i⟩:=by
 have h:=rfold_end d.fields i d.fields.length (Nat.le_refl _)
 rw[List.take_of_length_le (by rw[downL_length];exact Nat.le_refl _),Nat.sub_self]at h
 rw[readP,h]
 simp
theorem countF_tot {fs:List Fl} (hg:∀f,f∈fs→Good f):∀(k i n:Nat),fs.length-i=k→i≤fs.length→n≤4096→1≤n→countF fs i n=if n*tot (fs.drop i)≤4096 then (((n*tot (fs.drop i):Nat):Int),0)else (0,6):=by
 intro k
 induction k with
 |zero=>
  intro i n h hi hn _
  obtain rfl:i=fs.length:=by omega
  rw[countF,if_neg (by omega),List.drop_length,tot,Nat.mul_one,if_pos hn]
 |succ k ih=>
  intro i n h hi hn h1
  have hlt:i<fs.length:=by omega
  have hp:1≤tot (fs.drop (i+1)):=tot_pos fun f hf=>hg f (List.mem_of_mem_drop hf)
  have hs:=(hg _ (getD_mem hlt)).sz
  rw[countF,if_pos hlt,tot_at hlt,←Nat.mul_assoc]
  generalize hX:n*sz (fs.getD i default).words=X
  by_cases hc:4096<X
  ·rw[if_pos hc,if_neg]
   have:X*1≤X*tot (fs.drop (i+1)):=Nat.mul_le_mul_left _ hp
   omega
  ·rw[if_neg hc]
   exact ih (i+1) X (by omega) (by omega) (by omega) (by rw[←hX];exact Nat.mul_pos h1 hs.1)
theorem countE_tot {d:Dc} (h:checkE d=0):countE d=if tot d.fields≤4096 then ((tot d.fields:Int),0)else (0,6):=by
 rw[countE,if_pos h,countF_tot (right_of h).good _ 0 1 rfl (Nat.zero_le _) (by omega) (Nat.le_refl _),List.drop_zero,Nat.one_mul]
theorem countE_yes {d:Dc} (h:(countE d).2=0):Right d∧(countE d).1=tot d.fields∧tot d.fields≤4096:=by
 have h0:=countE_0 h
 rw[countE_tot h0]at h⊢
 split at h
 ·rename_i h1;rw[if_pos h1];exact ⟨right_of h0,rfl,h1⟩
 ·cases h
end Go.Gh
namespace Go.Gh
open Go Go.Proofs
set_option maxRecDepth 1000000
set_option maxHeartbeats 2000000
set_option linter.unusedSimpArgs false
set_option linter.unusedVariables false
set_option linter.unnecessarySimpa false
open Go.RowKit
theorem readT_getD {fs:List Fl} {i:Nat} :∀ {k:Nat},k<fs.length→(readT fs i).getD k default=textF (fs.getD k default) (i/tot (fs.drop (k+1)) % sz (fs.getD k default).words):=by
 induction fs with
 |nil=>intro k h;simp at h
 |cons f fs ih=>
  intro k h
  cases k with
  |zero=>rfl
  |succ k=>exact ih (by simpa using h)
theorem tot_drop_le {fs:List Fl} (hg:∀f,f∈fs→Good f):∀k,tot (fs.drop k)≤tot fs:=by
 induction fs with
 |nil=>intro k;simp
 |cons f fs ih=>
  intro k
  cases k with
  |zero=>exact Nat.le_refl _
  |succ k=>
   have h1:=ih (fun x hx=>hg x (List.mem_cons_of_mem _ hx)) k
   have h2:=(hg f List.mem_cons_self).sz.1
   show tot (fs.drop k)≤sz f.words*tot fs
   have:1*tot fs≤sz f.words*tot fs:=Nat.mul_le_mul_right _ h2
   omega
theorem rread_ok (d:Dc) (hd:Fit d) (i:Int):GC Tryz.prog 173 [dcG d,iG i] (.tup [pnG (readE d i).1,iG (readE d i).2]):=by
 have hd2:=hd.fields
 have hcl:=countE_le d
 refine gc_of_gk Tryz.func173 ?_
 refine gk_region env false [] [1,2,4,5] ?_
 refine gk_region env false [.call (rcount_ok d hd)] [1,2,4,5,6,7] ?_
 refine gk_region env false [] [1,2,4,5,6,7,16] ?_
 refine gk_ifn (fun c1=> ?_) (fun c1=> ?_)
 ·try simp only[toN]at c1
  refine gk_region env false [] [1,2,4,5,6] ?_
  refine gk_retE env ?_
  rw[readE,if_neg c1];exact Ent.tup ⟨ent_pn0,Ent.refl _,trivial⟩
 ·try simp only[toN]at c1
  refine gk_region env false [] [1,2,4,5,6,25] ?_
  refine gk_if (fun c2=> ?_) (fun c2=> ?_)
  ·try simp only[bb,toN]at c2
   refine gk_region env false [] [1,2,4,5,6] ?_
   refine gk_retE env ?_
   rw[readE,if_pos c1,if_neg (by omega)];exact Ent.tup ⟨ent_pn0,Ent.refl _,trivial⟩
  ·try simp only[bb,toN]at c2
   obtain ⟨hr,hct,htt⟩:=countE_yes c1
   have hin:0≤i∧i<(countE d).1:=by omega
   obtain ⟨m,rfl⟩:∃m:Nat,i=m:=⟨i.toNat,by omega⟩
   have hmt:m<tot d.fields:=by omega
   simp only[hct]
   refine gk_region env false [] [1,2,4,5,6,8] ?_
   refine gk_nilB 2 1 9 1 (default:ByteArray) strC ?_
   refine gk_nilB 2 2 9 1 (default:ByteArray) strC ?_
   refine gk_region env false [] [1,2,4,5,6,8,9] ?_
   refine gk_loop (α:=Nat) (fun k=>k≤d.fields.length) (fun k=>[(9,iG k),(6,iG (tot (d.fields.drop k))),(1,iG ((m % tot (d.fields.drop k):Nat)))]) (fun k=>[(2,some (.box [sG d.kind,.sl 3 1 0 k,.sl 4 1 0 k])),(3,some (.row 9 1 default strC ((d.fields.take k).map (·.name)) 0)),(4,some (.row 9 1 default strC ((readT d.fields m).take k) 0))]) (fun k=>d.fields.length-k) 0 (Nat.zero_le _) ?_ (hp:=by simp[AllP,Nat.mod_eq_of_lt hmt])
   rintro k hk
   refine gk_region env false [] [1,2,4,5,6,8,9,34] ?_
   refine gk_ifd (fun c3=> ?_) (fun c3=> ?_)
   ·try simp only[toN]at c3
    have hk1:k<d.fields.length:=by omega
    have hg:=hr.good (d.fields.getD k default) (getD_mem hk1)
    have hgs:=hg.sz
    have hz:=tot_at hk1
    have h1:1≤tot (d.fields.drop (k+1)):=tot_pos fun f hf=>hr.good f (List.mem_of_mem_drop hf)
    have htl:=tot_drop_le hr.good k
    have htl2:=tot_drop_le hr.good (k+1)
    have hrg:=readT_getD (i:=m) hk1
    have hat:m % tot (d.fields.drop k)/tot (d.fields.drop (k+1))=m/tot (d.fields.drop (k+1)) % sz (d.fields.getD k default).words:=by rw[hz];exact Nat.mod_mul_left_div_self ..
    have har:m % tot (d.fields.drop k) % tot (d.fields.drop (k+1))=m % tot (d.fields.drop (k+1)):=by rw[hz];exact Nat.mod_mul_left_mod ..
    have hrr:(tot (d.fields.drop k):Int)/(sz (d.fields.getD k default).words:Int)=(tot (d.fields.drop (k+1)):Int):=by rw[hz,Int.natCast_mul,Int.mul_ediv_cancel_left _ (by omega)]
    have hlt:=Nat.mod_lt (m/tot (d.fields.drop (k+1))) (show 0<sz (d.fields.getD k default).words by omega)
    rw[←hat]at hlt hrg
    have hq:((m % tot (d.fields.drop k):Nat):Int)/(tot (d.fields.drop (k+1)):Int)=((m % tot (d.fields.drop k)/tot (d.fields.drop (k+1)):Nat):Int):=(Int.natCast_ediv _ _).symm
    have hm:((m % tot (d.fields.drop k):Nat):Int) % (tot (d.fields.drop (k+1)):Int)=((m % tot (d.fields.drop (k+1)):Nat):Int):=by rw[←Int.natCast_emod,har]
    have hml:m % tot (d.fields.drop k)≤m:=Nat.mod_le _ _
    have htk:=take_getD hk1
    have htr:=take_getD (show k<(readT d.fields m).length by rw[readT_length];exact hk1)
    have hrl:=readT_length d.fields m
    refine gk_region env false [.call (rsize_ok (d.fields.getD k default) hg)] [1,2,4,5,6,8,9] ?_ (hp:=(by simp only[AllP,bb,toN,hrr];repeat' first|exact trivial|exact EntL.refl _|exact rfl|omega|apply And.intro|intro _))
    simp only[Int.toNat_natCast,hrr]
    refine gk_region env false [.el default strC [(d.fields.getD k default).name],.el default strC ((d.fields.take k).map (·.name)++ [(d.fields.getD k default).name])] [1,2,4,5,6,8,9] ?_ (hp:=(by simp only[AllP,obP,Int.toNat_natCast,List.length_map,List.length_take];repeat' first|exact trivial|exact EntL.refl _|exact BEntL.refl _|exact rfl|omega|(simp only[List.length_append,List.length_cons,List.length_nil,List.length_map,List.length_take,readT_length];omega)|apply And.intro|intro _|(simp[rowL,strC];done)))
    refine gk_region env false [.call (rtext_ok (d.fields.getD k default) hg (m % tot (d.fields.drop k)/tot (d.fields.drop (k+1))) hlt),.el default strC [(readT d.fields m).getD k default],.el default strC ((readT d.fields m).take k++ [(readT d.fields m).getD k default])] [1,2,4,5,6,8,9] ?_ (hp:=(by simp only[AllP,obP,Int.toNat_natCast,List.length_take,hq,←hrg];generalize m % tot (d.fields.drop k)/tot (d.fields.drop (k+1))=y at hlt;generalize m % tot (d.fields.drop k)=A at hml⊢;repeat' first|exact trivial|exact EntL.refl _|exact BEntL.refl _|exact rfl|omega|(simp only[List.length_append,List.length_cons,List.length_nil,List.length_map,List.length_take,readT_length];omega)|apply And.intro|intro _|(simp[rowL,strC];done)))
    refine gk_region env false [] [1,2,4,5,6,8,9] ?_ (hp:=(by simp only[AllP,bb,toN];generalize m % tot (d.fields.drop k)=A at hml⊢;repeat' first|exact trivial|exact EntL.refl _|exact rfl|omega|apply And.intro|intro _))
    refine gk_region env false [] [1,2,4,5,6,8,9] ?_
    refine gk_round (k+1) ?_ (hp:=by simp only[AllP,hm,htk,htr];simp<;>omega)
    omega
   ·try simp only[toN]at c3
    refine gk_region env false [] [4,5] ?_
    refine gk_ret env ?_ (hp:=by have:=readT_length d.fields m;simp only[AllP,List.length_map,List.length_take];omega)
    obtain rfl:k=d.fields.length:=by omega
    rw[readE,if_pos c1,if_pos hin,Int.toNat_natCast,readP_eq,List.take_of_length_le (Nat.le_refl _),List.take_of_length_le (by rw[readT_length];exact Nat.le_refl _)];rfl
end Go.Gh
namespace Go.Gh
open Go Go.Proofs
set_option maxRecDepth 1000000
set_option maxHeartbeats 2000000
set_option linter.unusedSimpArgs false
set_option linter.unusedVariables false
set_option linter.unnecessarySimpa false
open Go.RowKit
end Go.Gh
namespace Go.Proofs.YtffffkfcbjobnaaGreat.Lx
def blank (c:UInt8):Bool:=c==9||c==10||c==32
def letter (c:UInt8):Bool:=decide (97≤c.toNat∧c.toNat≤122)||decide (65≤c.toNat∧c.toNat≤90)
def digit (c:UInt8):Bool:=decide (48≤c.toNat∧c.toNat≤57)
def inner (c:UInt8):Bool:=letter c||digit c||c==95
def plain (c:UInt8):Bool:=decide (32≤c.toNat∧c.toNat≤126)
def signs:List UInt8:=[40,41,44,59,58,61,60,43,45,42,46,123,125]
def sign (c:UInt8):Bool:=signs.contains c
structure Tok where
 kind:Int
 text:List UInt8
 n:Int
 pos:Nat
def Tok.place (t:Tok) (p:Nat):Tok:=⟨t.kind,t.text,t.n,p⟩
def valFrom (a:Nat) (l:List UInt8):Nat:=l.foldl (fun n c=>10*n+(c.toNat-48)) a
def val (l:List UInt8):Nat:=valFrom 0 l
def nameOk:List UInt8→Bool
 | []=>false
 |c::r=>letter c&&(c::r).all inner&&decide ((c::r).length≤20)
def numOk:List UInt8→Bool
 | []=>false
 |c::r=>(c::r).all digit&&(c !=48||r.isEmpty)&&decide (val (c::r)≤1099511627776)
def unq:List UInt8→Option (List UInt8×Nat)
 | []=>none
 |c::r=>
  if c==34 then some ([],1)
  else if c==92 then
   match r with
   | []=>none
   |d::r'=>if d==34||d==92 then (unq r').map (fun p=>(d::p.1,p.2+2))else none
  else if plain c then (unq r).map (fun p=>(c::p.1,p.2+1))else none
def esc:List UInt8→List UInt8
 | []=>[]
 |c::r=>if c==34||c==92 then 92::c::esc r else c::esc r
def quote (l:List UInt8):List UInt8:=34::(esc l++ [34])
def valueOk (l:List UInt8):Bool:=l.all plain&&decide (l.length≤400)
def next (c:UInt8) (r:List UInt8):Int×Tok×Nat:=
 if letter c then
  let t:=(c::r).takeWhile inner
  if t.length≤20 then (0,⟨0,t,0,0⟩,t.length)else (3,⟨0,[],0,0⟩,0)
 else if digit c then
  let t:=(c::r).takeWhile digit
  if numOk t then (0,⟨1,t,val t,0⟩,t.length)else (3,⟨0,[],0,0⟩,0)
 else if c==34 then
  match unq r with
  |some (v,n)=>if v.length≤400 then (0,⟨2,v,0,0⟩,n+1)else (21,⟨0,[],0,0⟩,0)
  |none=>(21,⟨0,[],0,0⟩,0)
 else if sign c then (0,⟨3,[c],0,0⟩,1)
 else (20,⟨0,[],0,0⟩,0)
structure Res where
 toks:List Tok
 at_:Nat
 err:Int
def done:Res:=⟨[],0,0⟩
def pre (out:List Tok) (R:Res):Res:=if R.err=0 then ⟨out++R.toks,R.at_,0⟩else R
def scanF:Nat→Bool→List UInt8→Nat→Res
 |0,_,_,_=>done
 |_+1,_,[],_=>done
 |f+1,cm,c::r,p=>
  if (cm&&c !=10)||blank c then scanF f (cm&&c !=10) r (p+1)
  else if c==35 then scanF f true r (p+1)
  else
   let x:=next c r
   if x.1=0 then pre [x.2.1.place p] (scanF f false ((c::r).drop x.2.2) (p+x.2.2))else ⟨[],p,x.1⟩
def scan (cm:Bool) (l:List UInt8) (p:Nat):Res:=scanF l.length cm l p
end Go.Proofs.YtffffkfcbjobnaaGreat.Lx
namespace Go.Proofs.YtffffkfcbjobnaaGreat.Lx
def Tok.up (k:Nat) (t:Tok):Tok:=⟨t.kind,t.text,t.n,t.pos+k⟩
end Go.Proofs.YtffffkfcbjobnaaGreat.Lx
namespace Go.Proofs.YtffffkfcbjobnaaGreat.Lx
def src (t:Tok):List UInt8:=if t.kind=2 then quote t.text else t.text
def idle:Bool→List UInt8→Bool
 |_,[]=>true
 |cm,c::r=>((c==35||(cm&&c !=10))||blank c)&&idle (c==35||(cm&&c !=10)) r
def Good:Bool→List UInt8→Nat→List Tok→Prop
 |cm,l,_,[]=>idle cm l=true
 |cm,l,p,t::ts=>∃g rest,t.pos=p+g∧idle cm (l.take g)=true∧g≤l.length∧l.drop g=src t++rest∧src t≠ []∧(t.kind≠1→t.n=0)∧Good false rest (p+g+(src t).length) ts
theorem Good.more {c:UInt8} {cm cm':Bool} {r:List UInt8} {p:Nat} {ts:List Tok} (hc:cm'=(c==35||(cm&&c !=10))) (hi:(cm'||blank c)=true) (h:Good cm' r (p+1) ts):Good cm (c::r) p ts:=by
 subst hc
 cases ts with
 |nil=>
  show idle cm (c::r)=true
  unfold idle
  rw[hi,Bool.true_and];exact h
 |cons t ts=>
  obtain ⟨g,rest,h1,h2,h3,h4,h5,h6,h7⟩:=h
  refine ⟨g+1,rest,by omega,?_,by simp;omega,by simpa using h4,h5,h6,?_⟩
  ·rw[List.take_succ_cons]
   unfold idle
   rw[hi];simpa using h2
  ·rw[show p+(g+1)+(src t).length=p+1+g+(src t).length by omega];exact h7
theorem esc_yes {c:UInt8} {r:List UInt8} (h:(c==34||c==92)=true):esc (c::r)=92::c::esc r:=by
 rw[esc,if_pos h]
theorem esc_no {c:UInt8} {r:List UInt8} (h:(c==34||c==92)=false):esc (c::r)=c::esc r:=by
 rw[esc,if_neg (by simp[h])]
end Go.Proofs.YtffffkfcbjobnaaGreat.Lx
namespace Go.Proofs
open Go.Shelf
def Tryz.lays167_ren:Go.Shelf.Ren:=⟨fun|167=>212|240=>150|276=>160|n=>n,fun|0=>0|4=>4|5=>5|9=>9|20=>20|37=>203|70=>202|72=>205|75=>207|80=>174|164=>231|n=>n,fun|n=>n⟩
theorem Tryz.lays167:Go.Proofs.Lays.n167 Tryz.prog Tryz.lays167_ren:= {
 mixed:=by kernel_rfl
 f167:=Tryz.func212.trans (congrArg some (by kernel_rfl))
 f240:=Tryz.func150.trans (congrArg some (by kernel_rfl))
 f276:=Tryz.func160.trans (congrArg some (by kernel_rfl))
 t0:=Tryz.underlying0
 a0:=Tryz.isAgg0
 z0:=Tryz.sizeOf0
 v0:=Tryz.zeroValue0
 t4:=Tryz.underlying4
 a4:=Tryz.isAgg4
 z4:=Tryz.sizeOf4
 v4:=Tryz.zeroValue4
 t5:=Tryz.underlying5
 a5:=Tryz.isAgg5
 z5:=Tryz.sizeOf5
 v5:=Tryz.zeroValue5
 t9:=Tryz.underlying9
 a9:=Tryz.isAgg9
 z9:=Tryz.sizeOf9
 v9:=Tryz.zeroValue9
 t20:=Tryz.underlying20
 a20:=Tryz.isAgg20
 z20:=Tryz.sizeOf20
 v20:=Tryz.zeroValue20
 t37:=Tryz.underlying203
 a37:=Tryz.isAgg203
 z37:=Tryz.sizeOf203
 v37:=Tryz.zeroValue203
 t70:=Tryz.underlying202
 a70:=Tryz.isAgg202
 z70:=Tryz.sizeOf202
 v70:=Tryz.zeroValue202
 t72:=Tryz.underlying205
 a72:=Tryz.isAgg205
 z72:=Tryz.sizeOf205
 v72:=Tryz.zeroValue205
 t75:=Tryz.underlying207
 a75:=Tryz.isAgg207
 z75:=Tryz.sizeOf207
 v75:=Tryz.zeroValue207
 t164:=Tryz.underlying231
 a164:=Tryz.isAgg231
 z164:=Tryz.sizeOf231
 v164:=Tryz.zeroValue231}
theorem Tryz.Builder_Extra_167:Builder.Extra Tryz.prog Tryz.lays167_ren:= {
 sizeBuilder:=by kernel_rfl
 liesBuilder:=by kernel_rfl
 t5:=Tryz.underlying5
 a5:=Tryz.isAgg5
 z5:=Tryz.sizeOf5
 v5:=Tryz.zeroValue5
 infoByte:=by kernel_rfl
 cellsByte:=by kernel_rfl
 sizeByte:=by kernel_rfl
 neB5:=by decide}
open Go.RowKit in
theorem Tryz.Builder_WriteByte (B b:Nat) (bs:List Value) (c:Int) (w:World) (h:Lib.IsBuilder 205 5 B b bs w) (hlen:bs.length+1≤140737488355328) (hBw:B≤w.heap.size):
 Calls Tryz.prog 212 #[.pointer (some ⟨b,0,none⟩),.int .u8 c] w fun e w'=>e= .returned .nilIface∧(Lib.BuilderAt 205 5 B b (.pointer (some ⟨b,0,none⟩)) (bs++ [.int .u8 c]) w'∧Below B w w'):=Any.Builder_WriteByte Tryz.lays167 Tryz.Builder_Extra_167 B b bs c w h hlen hBw
end Go.Proofs
namespace Go.Proofs.YtffffkfcbjobnaaGreat
open Go.RowKit Lx
set_option linter.unusedSimpArgs false
set_option linter.unusedVariables false
theorem eq8 (c d:UInt8):c=d↔c.toNat=d.toNat:=UInt8.toNat_inj.symm
end Go.Proofs.YtffffkfcbjobnaaGreat
namespace Go.Proofs.YtffffkfcbjobnaaGreat
open Go.RowKit Lx
set_option linter.unusedSimpArgs false
set_option linter.unusedVariables false
def bs (s:ByteArray):List UInt8:=s.data.toList
theorem bs_len (s:ByteArray):(bs s).length=s.size:=by unfold bs;rw[Array.length_toList];rfl
theorem bs_get (s:ByteArray) (k:Nat) (h:k<s.size):(bs s)[k]? =some s[k]:=by
 unfold bs
 rw[List.getElem?_eq_getElem (by rw[Array.length_toList];exact h)]
 rfl
theorem cells_snoc (l:List UInt8) (c:UInt8):Lib.byteCells l++ [Value.int .u8 (c.toNat:Int)]=Lib.byteCells (l++ [c]):=by
 simp[Lib.byteCells]
theorem esc_snoc (l:List UInt8) (c:UInt8):esc (l++ [c])=esc l++(if c==34||c==92 then [92,c]else [c]):=by
 induction l with
 |nil=>
  cases h:(c==34||c==92)with
  |true=>rw[List.nil_append,esc_yes h];simp[esc]
  |false=>rw[List.nil_append,esc_no h];simp[esc]
 |cons d l ih=>
  rw[List.cons_append]
  cases h:(d==34||d==92)with
  |true=>rw[esc_yes h,esc_yes h,ih];simp
  |false=>rw[esc_no h,esc_no h,ih];simp
theorem esc_len (l:List UInt8):(esc l).length≤2*l.length:=by
 induction l with
 |nil=>simp[esc]
 |cons d l ih=>
  cases h:(d==34||d==92)with
  |true=>rw[esc_yes h];simp;omega
  |false=>rw[esc_no h];simp;omega
def Bld (B b:Nat) (l:List UInt8) (w:World):Prop:=Lib.IsBuilder 205 5 B b (Lib.byteCells l) w
theorem cells_len (l:List UInt8):(Lib.byteCells l).length=l.length:=by simp[Lib.byteCells]
theorem write_any (B b:Nat) (l:List UInt8) (c:UInt8) (W w:World) (h:Bld B b l w) (hl:l.length≤4000000) (hB:Below B W w) (hs:B≤w.heap.size):
 Calls Tryz.prog 212 #[.pointer (some ⟨b,0,none⟩),.int .u8 (c.toNat:Int)] w fun e w'=>e= .returned .nilIface∧Bld B b (l++ [c]) w'∧Below B W w'∧B≤w'.heap.size:=by
 refine (Tryz.Builder_WriteByte B b (Lib.byteCells l) (c.toNat:Int) w h (by rw[cells_len];omega) hs).mono ?_
 rintro e w' ⟨rfl,h1,h2⟩
 refine ⟨rfl,?_,hB.trans h2,Nat.le_trans hs h2.size⟩
 rw[cells_snoc]at h1
 exact .inr h1
theorem Bld.new (W:World):Bld W.heap.size W.heap.size [] (W.alloc (.cells #[.pointer none,.slice none 0 0] 205)):=by
 refine .inl ⟨Nat.le_refl _,.slice none 0 0,heap_alloc_new W _,World.ownsRow_nil _ _ _ _,by simp[Value.ownBlock]⟩
def Held (W:World) (l:List UInt8) (wr:World):Prop:=Bld W.heap.size W.heap.size l wr∧Below W.heap.size W wr∧W.heap.size≤wr.heap.size
theorem write_held (l:List UInt8) (c:UInt8) (W w:World) (h:Held W l w) (hl:l.length≤4000000):
 Calls Tryz.prog 212 #[.pointer (some ⟨W.heap.size,0,none⟩),.int .u8 (c.toNat:Int)] w fun e w'=>e= .returned .nilIface∧Held W (l++ [c]) w':=
 (write_any _ _ l c W w h.1 hl h.2.1 h.2.2).mono fun _ _ ⟨he,h1,h2,h3⟩=>⟨he,h1,h2,h3⟩
theorem string_held (l:List UInt8) (W w:World) (h:Held W l w):
 Calls Tryz.prog 134 #[.pointer (some ⟨W.heap.size,0,none⟩)] w fun e w'=>e= .returned (.string ⟨l.toArray⟩)∧Below W.heap.size W w':=by
 refine (Tryz.Builder_String_any _ _ l w h.1 h.2.2).mono ?_
 rintro e w' ⟨rfl,hx⟩
 exact ⟨rfl,h.2.1.trans (by first|exact hx|exact hx.2)⟩
set_option maxHeartbeats 4000000 in
theorem escaped_any (s:ByteArray) (w:World) (hs:s.size≤1000000):
 Calls Tryz.prog 211 #[.string s] w fun e w'=>e= .returned (.string ⟨(quote (bs s)).toArray⟩)∧Below w.heap.size w w':=by
 have hn:Held w [] (w.alloc (.cells #[.pointer none,.slice none 0 0] 205)):=⟨Bld.new w,(Below.refl _ _).alloc (Nat.le_refl _) _,by simp⟩
 have h34:=fun wx (h:Held w [] wx)=>write_held [] 34 w wx h (by simp)
 have H34:=Lib.hid h34
 have HN:=Lib.hid hn
 clear h34 hn
 go_enter Tryz.func211,Tryz.ntmps211
 go_wp2_with fail
 refine (H34.out _ HN.out).mono ?_
 rintro e w1 ⟨rfl,h1⟩
 have H1:=Lib.hid h1
 clear h1 H34 HN
 go_wp2
 go_loopw [8] (fun i wr=>∃k:Nat,i= .int .i64 k∧k≤s.size∧Hid (Held w (34::esc ((bs s).take k)) wr)) (fun i _=>s.size-(intOf i).toNat)
 case atStart=>exact ⟨0,rfl,by omega,H1.out⟩
 case round=>
  obtain ⟨k,rfl,hk,HH⟩:=hrel
  by_cases hlt:k<s.size
  ·have hl:(34::esc ((bs s).take k)).length≤3000000:=by
    have:=esc_len ((bs s).take k)
    have h2:((bs s).take k).length≤k:=List.length_take_le _ _
    simp;omega
   have hst:(bs s).take (k+1)=(bs s).take k++ [s[k]]:=by rw[List.take_add_one,bs_get s k hlt];rfl
   have HS:=Lib.hid (show (34::esc ((bs s).take (k+1)):List UInt8)=34::esc ((bs s).take k)++(if s[k]==34||s[k]==92 then [92,s[k]]else [s[k]])by rw[hst,esc_snoc];rfl)
   clear hst
   have e34:(s[k]==34)=((s[k].toNat:Int)==34):=by rw[Bool.eq_iff_iff];simp only[beq_iff_eq,eq8];constructor<;>(intro h;simp at h⊢;omega)
   have e92:(s[k]==92)=((s[k].toNat:Int)==92):=by rw[Bool.eq_iff_iff];simp only[beq_iff_eq,eq8];constructor<;>(intro h;simp at h⊢;omega)
   rw[e34,e92]at HS
   clear e34 e92
   have hw1:=fun wx (h:Held w (34::esc ((bs s).take k)) wx)=>write_held _ 92 w wx h (by omega)
   have hw2:=fun wx (h:Held w (34::esc ((bs s).take k)) wx)=>write_held _ s[k] w wx h (by omega)
   have hw3:=fun wx (h:Held w (34::esc ((bs s).take k)++ [92]) wx)=>write_held _ s[k] w wx h (by rw[List.length_append];simp at hl⊢;omega)
   have W1:=Lib.hid hw1
   have W2:=Lib.hid hw2
   have W3:=Lib.hid hw3
   clear hw1 hw2 hw3 hl
   cases b1:((s[k].toNat:Int)==34)with
   |true=>
    rw[b1]at HS
    go_wp2_with fail
    refine (W1.out _ HH.out).mono ?_
    rintro e w2 ⟨rfl,h2⟩
    have H2:=Lib.hid h2
    clear h2
    go_wp2_with fail
    refine (W3.out _ H2.out).mono ?_
    rintro e w3 ⟨rfl,h3⟩
    have H3:=Lib.hid h3
    clear h3
    go_wp2
    go_roundw
    case rel=>exact ⟨k+1,by go_num,by omega,by rw[HS.out];exact Lib.hid (by simpa using H3.out)⟩
    case measure=>simp[intOf];omega
   |false=>
    cases b2:((s[k].toNat:Int)==92)with
    |true=>
     rw[b1,b2]at HS
     go_wp2_with fail
     refine (W1.out _ HH.out).mono ?_
     rintro e w2 ⟨rfl,h2⟩
     have H2:=Lib.hid h2
     clear h2
     go_wp2_with fail
     refine (W3.out _ H2.out).mono ?_
     rintro e w3 ⟨rfl,h3⟩
     have H3:=Lib.hid h3
     clear h3
     go_wp2
     go_roundw
     case rel=>exact ⟨k+1,by go_num,by omega,by rw[HS.out];exact Lib.hid (by simpa using H3.out)⟩
     case measure=>simp[intOf];omega
    |false=>
     rw[b1,b2]at HS
     go_wp2_with fail
     refine (W2.out _ HH.out).mono ?_
     rintro e w2 ⟨rfl,h2⟩
     have H2:=Lib.hid h2
     clear h2
     go_wp2
     go_roundw
     case rel=>exact ⟨k+1,by go_num,by omega,by rw[HS.out];exact Lib.hid (by simpa using H2.out)⟩
     case measure=>simp[intOf];omega
  ·obtain rfl:k=s.size:=by omega
   have hfull:(bs s).take s.size=bs s:=by rw[←bs_len,List.take_length]
   rw[hfull]at HH
   have hl:(34::esc (bs s)).length≤3000000:=by
    have:=esc_len (bs s)
    rw[bs_len]at this
    simp;omega
   have hw:=fun wx (h:Held w (34::esc (bs s)) wx)=>write_held _ 34 w wx h (by omega)
   have hq:(34::esc (bs s)++ [34]:List UInt8)=quote (bs s):=rfl
   rw[hq]at hw
   have W1:=Lib.hid hw
   clear hw hq hfull hl
   go_wp2_with fail
   refine (W1.out _ HH.out).mono ?_
   rintro e w2 ⟨rfl,h2⟩
   have H2:=Lib.hid h2
   clear h2
   go_wp2_with fail
   refine (string_held _ w _ H2.out).mono ?_
   rintro e w3 ⟨rfl,h3⟩
   have H3:=Lib.hid h3
   clear h3
   go_wp2
   go_ret
   exact ⟨rfl,H3.out⟩
end Go.Proofs.YtffffkfcbjobnaaGreat
