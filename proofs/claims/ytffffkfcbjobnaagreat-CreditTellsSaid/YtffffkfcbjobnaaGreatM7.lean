/- Walks by the logic of calls, and plain laws (several texts in one). -/
import Derived.Test.YtffffkfcbjobnaaGreatM6
import Derived.Test.YtffffkfcbjobnaaGreatM2
import Derived.Test.YtffffkfcbjobnaaGreatM5
namespace Go.Gh
open Go Go.Proofs
set_option maxRecDepth 1000000
set_option maxHeartbeats 2000000
set_option linter.unusedSimpArgs false
set_option linter.unusedVariables false
set_option linter.unnecessarySimpa false
set_option linter.unusedSectionVars false
variable [PowTab] [ItoaU]
open Go.RowKit
theorem rvalue_ok (s:ByteArray) (hs:s.size≤9223372036854775807):GC Tryz.prog 116 [sG s] (bG (valueOk s)):=by
 refine gc_of_gk Tryz.func116 ?_
 refine gk_region env false [] [0,2] ?_
 refine gk_region env false [] [0,2,3] ?_
 refine gk_loop (α:=Nat) (fun i=>i≤s.size∧span plainB s 0=span plainB s i) (fun i=>[(3,iG i)]) (fun _=>[]) (fun i=>s.size-i) 0 ⟨by omega,rfl⟩ ?_
 rintro i ⟨hi,he⟩
 refine gk_region env false [] [0,2,3,7] ?_
 refine gk_ifd (fun c1=> ?_) (fun c1=> ?_)
 ·try simp only[toN]at c1
  refine gk_region env false [] [0,2,3,19] ?_
  refine gk_if (fun c2=> ?_) (fun c2=> ?_)
  ·try simp only[bb,toN]at c2
   refine gk_region env false [] [0,2,3] ?_
   refine gk_ret env ?_
   have hp:plainB (byteAt s i)=false:=by
    simp only[plainB,Bool.and_eq_false_iff,decide_eq_false_iff_not];omega
   have:=span_stop (by omega) he hp
   simp[valueOk,this,tupG]
  ·try simp only[bb,toN]at c2
   refine gk_region env false [] [0,2,3] ?_
   refine gk_round (i+1) ?_
   exact ⟨by omega,he.trans (by rw[span,if_pos (by omega),if_pos (by simp only[plainB,Bool.and_eq_true,decide_eq_true_eq];omega)])⟩
 ·try simp only[toN]at c1
  refine gk_region env false [] [2] ?_
  refine gk_ret env ?_
  have hz:span plainB s 0=s.size:=by rw[he,span,if_neg (by omega)];omega
  simp[valueOk,hz,tupG]
theorem ba_size (a b:ByteArray):(a++b).size=a.size+b.size:=ByteArray.size_append
def escF (s:ByteArray) (i:Nat) (acc:ByteArray):ByteArray:=if i<s.size then escF s (i+1) ((if byteAt s i=34∨byteAt s i=92 then acc++⟨#[92]⟩else acc)++s.extract i (i+1))else acc
termination_by s.size-i
def escR (s:ByteArray):ByteArray:=escF s 0 ⟨#[34]⟩++⟨#[34]⟩
theorem escF_size (s:ByteArray):∀(k i:Nat) (acc:ByteArray),s.size-i=k→(escF s i acc).size≤acc.size+2*k:=by
 intro k
 induction k with
 |zero=>intro i acc h;rw[escF,if_neg (by omega)];omega
 |succ k ih=>
  intro i acc h
  rw[escF,if_pos (by omega)]
  refine Nat.le_trans (ih (i+1) _ (by omega)) ?_
  rw[ba_size]
  have:(s.extract i (i+1)).size≤1:=by rw[ByteArray.size_extract];omega
  split
  ·rw[ba_size];have:(⟨#[92]⟩:ByteArray).size=1:=rfl;omega
  ·omega
theorem escR_size (s:ByteArray):(escR s).size≤2*s.size+2:=by
 have:=escF_size s s.size 0 ⟨#[34]⟩ (by omega)
 unfold escR
 rw[ba_size]
 have h1:(⟨#[34]⟩:ByteArray).size=1:=rfl
 omega
theorem ext_one (s:ByteArray) (i:Nat):s.extract (loI (some (i:Int))).toNat (hiI s.size (some ((i:Int)+1))).toNat=s.extract i (i+1):=by
 show s.extract ((i:Int).toNat) (((i:Int)+1).toNat)=_
 rw[show ((i:Int)+1).toNat=i+1 by omega,Int.toNat_natCast]
theorem ext1 (s:ByteArray) (i:Nat):(s.extract i (i+1)).size≤1:=by rw[ByteArray.size_extract];omega
theorem one34:(⟨#[34]⟩:ByteArray).size=1:=rfl
theorem one92:(⟨#[92]⟩:ByteArray).size=1:=rfl
structure EscI (s:ByteArray) (i:Nat) (acc:ByteArray):Prop where
 le:i≤s.size
 sz:acc.size≤2*i+1
 eq:escF s 0 ⟨#[34]⟩=escF s i acc
theorem resc_ok (s:ByteArray) (hs:s.size≤1000):GC Tryz.prog 120 [sG s] (sG (escR s)):=by
 refine gc_of_gk Tryz.func120 ?_
 refine gk_region env false [] [0,2] ?_
 refine gk_region env false [] [0,2,3] ?_
 refine gk_region env false [] [0,2,3,4] ?_
 refine gk_loop (α:=Nat×ByteArray) (fun x=>EscI s x.1 x.2) (fun x=>[(4,iG x.1),(3,sG x.2)]) (fun _=>[]) (fun x=>s.size-x.1) (0,⟨#[34]⟩) ⟨Nat.zero_le _,by decide,rfl⟩ ?_
 rintro ⟨i,acc⟩ hI
 dsimp only at*
 have h1:=hI.le
 have h2:=hI.sz
 have h3:=ext1 s i
 refine gk_region env false [] [0,2,3,4,8] ?_
 refine gk_ifd (fun c1=> ?_) (fun c1=> ?_)
 ·try simp only[toN]at c1
  refine gk_region env false [] [0,2,3,4,20] ?_
  refine gk_if (fun c2=> ?_) (fun c2=> ?_)
  ·try simp only[bb,toN]at c2
   refine gk_region env false [] [0,2,3,4] ?_ (hp:=(by simp only[AllP,bb,toN,ext_one,ba_size,one34,one92];repeat' first|exact trivial|omega|exact EntL.refl _|exact rfl|apply And.intro|(simp only[loI,hiI];omega)))
   refine gk_region env false [] [0,2,3,4] ?_ (hp:=(by simp only[AllP,bb,toN,ext_one,ba_size,one34,one92];repeat' first|exact trivial|omega|exact EntL.refl _|exact rfl|apply And.intro|(simp only[loI,hiI];omega)))
   refine gk_region env false [] [0,2,3,4] ?_
   refine gk_round ((i+1,(acc++⟨#[92]⟩)++s.extract i (i+1))) ?_ (hp:=by simp only[AllP,ext_one];repeat' first|exact trivial|exact EntL.refl _|exact BEntL.refl _|exact rfl|omega|apply And.intro|intro _)
   refine ⟨by simp only;omega,by simp only[ba_size,one92];omega,hI.eq.trans ?_⟩
   rw[escF,if_pos (by omega),if_pos (by simpa using c2)]
  ·try simp only[bb,toN]at c2
   refine gk_region env false [] [0,2,3,4] ?_ (hp:=(by simp only[AllP,bb,toN,ext_one,ba_size,one34,one92];repeat' first|exact trivial|omega|exact EntL.refl _|exact rfl|apply And.intro|(simp only[loI,hiI];omega)))
   refine gk_region env false [] [0,2,3,4] ?_
   refine gk_round ((i+1,acc++s.extract i (i+1))) ?_ (hp:=by simp only[AllP,ext_one];repeat' first|exact trivial|exact EntL.refl _|exact BEntL.refl _|exact rfl|omega|apply And.intro|intro _)
   refine ⟨by simp only;omega,by simp only[ba_size,one92];omega,hI.eq.trans ?_⟩
   rw[escF,if_pos (by omega),if_neg (by simpa using c2)]
 ·try simp only[toN]at c1
  refine gk_region env false [] [2] ?_ (hp:=(by simp only[AllP,bb,toN,ext_one,ba_size,one34,one92];repeat' first|exact trivial|omega|exact EntL.refl _|exact rfl|apply And.intro|(simp only[loI,hiI];omega)))
  refine gk_ret env ?_
  rw[escR,hI.eq,escF,if_neg (by omega)];rfl
structure Tk where
 kind:Int
 text:ByteArray
 n:Int
 pos:Int
instance :Inhabited Tk:=⟨⟨0,⟨#[]⟩,0,0⟩⟩
def tkC (t:Tk):List D:=[.sc (.int .i64 t.kind),.sc (.string t.text),.sc (.int .i64 t.n),.sc (.int .i64 t.pos)]
abbrev tkG (t:Tk):G:= .agg [iG t.kind,sG t.text,iG t.n,iG t.pos]
abbrev rowTk (l:List Tk):G:= .d (.row default tkC l)
def tkW (s:ByteArray):Tk:=⟨0,s,0,0⟩
def tkS (s:ByteArray):Tk:=⟨3,s,0,0⟩
def dig1 (n:Int):ByteArray:=⟨#[UInt8.ofNat (48+n % 10).toNat]⟩
def digN:Nat→Int→ByteArray
 |0,n=>dig1 n
 |k+1,n=>if n<10 then dig1 n else digN k (n/10)++dig1 n
def digs (n:Int):ByteArray:=digN n.toNat n
theorem digN_more:∀(k:Nat) (n:Int),0≤n→n.toNat≤k→∀m,k≤m→digN m n=digN k n:=by
 intro k
 induction k with
 |zero=>
  intro n h0 h1 m _
  cases m with
  |zero=>rfl
  |succ m=>show (if n<10 then dig1 n else _)=dig1 n;rw[if_pos (by omega)]
 |succ k ih=>
  intro n h0 h1 m hm
  obtain ⟨m,rfl⟩:∃j,m=j+1:=⟨m-1,by omega⟩
  simp only[digN]
  split
  ·rfl
  ·rw[ih (n/10) (by omega) (by omega) m (by omega)]
theorem digs_eq {n:Int} (h:0≤n):digs n=if n<10 then dig1 n else digs (n/10)++dig1 n:=by
 unfold digs
 by_cases hn:n<10
 ·rw[if_pos hn]
  cases e:n.toNat with
  |zero=>rfl
  |succ k=>rw[digN,if_pos hn]
 ·rw[if_neg hn]
  obtain ⟨k,hk⟩:∃k,n.toNat=k+1:=⟨n.toNat-1,by omega⟩
  rw[hk,digN,if_neg hn,digN_more (n/10).toNat (n/10) (by omega) (Nat.le_refl _) k (by omega)]
theorem digN_size:∀(j:Nat) (k:Nat) (n:Int),0≤n→n<10^(j+1)→(digN k n).size≤j+1:=by
 intro j
 induction j with
 |zero=>
  intro k n h0 h1
  cases k with
  |zero=>exact Nat.le_refl 1
  |succ k=>rw[digN,if_pos (by simpa using h1)];exact Nat.le_refl 1
 |succ j ih=>
  intro k n h0 h1
  cases k with
  |zero=>show 1≤_;omega
  |succ k=>
   rw[digN]
   split
   ·show 1≤_;omega
   ·rw[ba_size]
    have h2:n/10<10^(j+1):=by
     rw[Int.pow_succ]at h1
     exact Int.ediv_lt_of_lt_mul (by omega) h1
    have:=ih k (n/10) (by omega) h2
    have h3:(dig1 n).size=1:=rfl
    omega
theorem digs_size {n:Int} (h0:0≤n) (h1:n≤9223372036854775807):(digs n).size≤19:=digN_size 18 _ n h0 (by have:(10:Int)^(18+1)=10000000000000000000:=by decide
                                                                                                        omega)
theorem dig1_byte {n:Int} :rowL (fun c=>[D.sc (.int .u8 c)]) [48+n % 10]=byteL (dig1 n):=by
 have e:((UInt8.ofNat (48+n % 10).toNat).toNat:Int)=48+n % 10:=by
  rw[UInt8.toNat_ofNat'];omega
 simp only[byteL,dig1,rowL,List.map_cons,List.map_nil]
 rw[e]
theorem rwordT_ok (s:ByteArray):GC Tryz.prog 117 [sG s] (tkG (tkW s)):=by
 refine gc_of_gk Tryz.func117 ?_
 refine gk_region env false [] [0,2] ?_
 refine gk_region env false [] [2] ?_
 refine gk_ret env ?_
 rfl
theorem rsignT_ok (s:ByteArray):GC Tryz.prog 118 [sG s] (tkG (tkS s)):=by
 refine gc_of_gk Tryz.func118 ?_
 refine gk_region env false [] [0,2] ?_
 refine gk_region env false [] [2] ?_
 refine gk_ret env ?_
 rfl
theorem digits_ok (n:Int) (h0:0≤n) (h1:n≤9223372036854775807):GC Tryz.prog 119 [iG n] (sG (digs n)):=by
 refine gc_of_gk Tryz.func119 ?_
 refine gk_region env false [] [0,2] ?_
 refine gk_region env false [.el (0:Int) (fun c=>[.sc (.int .u8 c)]) [48+n % 10],.str (dig1 n)] [0,2,3] ?_ (hp:=(by simp only[AllP,bb,toN,inR];repeat' first|exact trivial|exact dig1_byte|omega|exact rfl|apply And.intro))
 refine gk_region env false [] [0,2,3,11] ?_
 refine gk_ifd (fun c1=> ?_) (fun c1=> ?_)
 ·try simp only[toN]at c1
  refine gk_region env false [] [0,2,3] ?_
  refine gk_ret env ?_
  rw[digs_eq h0,if_pos c1];rfl
 ·try simp only[toN]at c1
  refine gk_region env false [.call (digits_ok (n/10) (by omega) (by omega))] [2] ?_ (hp:=(by simp only[AllP,bb,toN,inR];have hz:=digs_size (n:=n/10) (by omega) (by omega);have hz1:(dig1 n).size=1:=rfl;repeat' first|exact trivial|exact EntL.refl _|omega|exact rfl|apply And.intro))
  refine gk_ret env ?_
  rw[digs_eq h0,if_neg c1];rfl
termination_by n.toNat
decreasing_by omega
abbrev kNeed:ByteArray:=⟨#[110,101,101,100]⟩
abbrev kSemi:ByteArray:=⟨#[59]⟩
abbrev kDot:ByteArray:=⟨#[46]⟩
abbrev kSum:ByteArray:=⟨#[115,117,109]⟩
abbrev kField:ByteArray:=⟨#[102,105,101,108,100]⟩
abbrev kIs:ByteArray:=⟨#[105,115]⟩
abbrev kSame:ByteArray:=⟨#[115,97,109,101]⟩
abbrev kFrom:ByteArray:=⟨#[102,114,111,109]⟩
abbrev kTo:ByteArray:=⟨#[116,111]⟩
def headT (d:Dm):List Tk:=[tkW (if d.op=4 then kSum else kField),tkW d.doc,tkS kDot,tkW d.field]
def tailT (d:Dm):List Tk:=if d.op=1 then [tkW kIs,⟨2,d.text,0,0⟩,tkS kSemi]else if d.op=3 then [tkW kSame,tkW d.other,tkS kDot,tkW d.second,tkS kSemi]else [tkW kFrom,⟨1,digs d.lo,0,0⟩,tkW kTo,⟨1,digs d.hi,0,0⟩,tkS kSemi]
def toksD (d:Dm):List Tk:=if d.op=0 then [tkW kNeed,tkW d.doc,tkS kSemi]else headT d++tailT d
def Fine (d:Dm):Prop:=((0≤d.op∧d.op<5)∧nameOk d.doc=true)∧((d.op=0∨nameOk d.field=true)∧(¬d.op=0∨d.field=⟨#[]⟩))∧((¬d.op=3∨nameOk d.other=true∧nameOk d.second=true)∧(d.op=3∨d.other=⟨#[]⟩∧d.second=⟨#[]⟩))∧((¬d.op=1∨valueOk d.text=true)∧(d.op=1∨d.text=⟨#[]⟩))∧(if d.op=2∨d.op=4 then 0≤d.lo∧d.lo≤d.hi∧d.hi≤1099511627776 else d.lo=0∧d.hi=0)
instance (d:Dm):Decidable (Fine d):=by unfold Fine;infer_instance
theorem fine_ok (d:Dm) (hf:FewD d):GC Tryz.prog 83 [dmG d] (bG (decide (Fine d))):=by
 obtain ⟨f1,f2,f3,f4,f5⟩:=hf
 refine gc_of_gk Tryz.func83 ?_
 refine gk_region env false [] [1,2] ?_
 refine gk_box 0 ?_
 refine gk_region env false [] [1,2,3] ?_
 refine gk_region env false [] [1,2,3,4] ?_
 refine gk_region env false [.call (GC.lift (rname_ok d.doc (by omega)))] [1,2,3,4,29] ?_
 refine gk_if (fun c1=> ?_) (fun c1=> ?_)
 ·try simp only[bb,toN]at c1
  refine gk_region env false [] [1,2,3,4] ?_
  refine gk_ret env ?_
  have h:¬Fine d:=by unfold Fine;grind
  rw[decide_eq_false h];rfl
 ·try simp only[bb,toN]at c1
  refine gk_region env false [.call (GC.lift (rname_ok d.field (by omega)))] [1,2,4,45] ?_
  refine gk_if (fun c2=> ?_) (fun c2=> ?_)
  ·try simp only[bb,toN]at c2
   refine gk_region env false [] [1,2,4] ?_
   refine gk_ret env ?_
   have h:¬Fine d:=by unfold Fine;grind
   rw[decide_eq_false h];rfl
  ·try simp only[bb,toN]at c2
   refine gk_region env false [.call (GC.lift (rname_ok d.other (by omega))),.call (GC.lift (rname_ok d.second (by omega)))] [1,2,4,75] ?_
   refine gk_if (fun c3=> ?_) (fun c3=> ?_)
   ·try simp only[bb,toN]at c3
    refine gk_region env false [] [1,2,4] ?_
    refine gk_ret env ?_
    have h:¬Fine d:=by unfold Fine;grind
    rw[decide_eq_false h];rfl
   ·try simp only[bb,toN]at c3
    refine gk_region env false [.call (rvalue_ok d.text (by omega))] [1,2,4,94] ?_
    refine gk_if (fun c4=> ?_) (fun c4=> ?_)
    ·try simp only[bb,toN]at c4
     refine gk_region env false [] [1,2,4] ?_
     refine gk_ret env ?_
     have h:¬Fine d:=by unfold Fine;grind
     rw[decide_eq_false h];rfl
    ·try simp only[bb,toN]at c4
     refine gk_region env false [] [1,2,96] ?_
     refine gk_if (fun c5=> ?_) (fun c5=> ?_)
     ·try simp only[bb,toN]at c5
      refine gk_region env false [] [1,2] ?_
      refine gk_ret env ?_
      have e:Fine d↔d.lo=0∧d.hi=0:=⟨fun h=>by have:=h.2.2.2.2;rwa[if_neg (by omega)]at this,fun h=>⟨c1,c2,c3,c4,by rwa[if_neg (by omega)]⟩⟩
      rw[show decide (Fine d)=decide (d.lo=0∧d.hi=0)from decide_eq_decide.2 e];simp only[Bool.cond_false_right,Bool.decide_and];rfl
     ·try simp only[bb,toN]at c5
      refine gk_region env false [] [2] ?_
      refine gk_ret env ?_
      have e:Fine d↔0≤d.lo∧d.lo≤d.hi∧d.hi≤1099511627776:=⟨fun h=>by have:=h.2.2.2.2;rwa[if_pos c5]at this,fun h=>⟨c1,c2,c3,c4,by rwa[if_pos c5]⟩⟩
      rw[show decide (Fine d)=decide (0≤d.lo∧d.lo≤d.hi∧d.hi≤1099511627776)from decide_eq_decide.2 e];simp only[Bool.cond_false_right,Bool.decide_and,Bool.and_assoc];rfl
theorem toks_ok (d:Dm) (hlo:0≤d.lo∧d.lo≤1099511627776) (hhi:0≤d.hi∧d.hi≤1099511627776):GC Tryz.prog 84 [dmG d] (rowTk (toksD d)):=by
 refine gc_of_gk Tryz.func84 ?_
 refine gk_region env false [] [1,2] ?_
 refine gk_box 0 ?_
 refine gk_region env false [] [1,2,7] ?_
 refine gk_ifd (fun c1=> ?_) (fun c1=> ?_)
 ·try simp only[toN]at c1
  refine gk_region env false [.call (rwordT_ok kNeed),.call (rwordT_ok d.doc),.call (rsignT_ok kSemi),.el default tkC [tkW kNeed,tkW d.doc,tkS kSemi]] [1,2] ?_
  refine gk_ret env ?_
  rw[toksD,if_pos c1];rfl
 ·try simp only[toN]at c1
  refine gk_region env false [] [1,2,3] ?_
  refine gk_region env false [] [1,2,3,16] ?_
  refine gk_ifd (fun c2=> ?_) (fun c2=> ?_)
  ·try simp only[toN]at c2
   refine gk_region env false [] [1,2,3] ?_
   refine gk_region env false [.call (rwordT_ok kSum),.call (rwordT_ok d.doc),.call (rsignT_ok kDot),.call (rwordT_ok d.field),.el default tkC [tkW kSum,tkW d.doc,tkS kDot,tkW d.field]] [1,2,4] ?_
   refine gk_region env false [] [1,2,4,29] ?_
   refine gk_ifd (fun c3=> ?_) (fun c3=> ?_)
   ·try simp only[toN]at c3
    omega
   ·try simp only[toN]at c3
    refine gk_region env false [] [1,2,4,40] ?_
    refine gk_ifd (fun c4=> ?_) (fun c4=> ?_)
    ·try simp only[toN]at c4
     omega
    ·try simp only[toN]at c4
     refine gk_region env false [.call (rwordT_ok kFrom),.call (digits_ok d.lo hlo.1 (by omega)),.call (rwordT_ok kTo),.call (digits_ok d.hi hhi.1 (by omega)),.call (rsignT_ok kSemi),.el default tkC [tkW kFrom,⟨1,digs d.lo,0,0⟩,tkW kTo,⟨1,digs d.hi,0,0⟩,tkS kSemi],.el default tkC ([tkW kSum,tkW d.doc,tkS kDot,tkW d.field]++ [tkW kFrom,⟨1,digs d.lo,0,0⟩,tkW kTo,⟨1,digs d.hi,0,0⟩,tkS kSemi])] [2] ?_ (hp:=(by simp only[AllP,Int.toNat_natCast];repeat' first|exact trivial|exact EntL.refl _|exact BEntL.refl _|exact rfl|omega|apply And.intro|intro _|(simp[rowL];done)|(simp only[List.length_append,List.length_cons,List.length_nil];omega)|(simp[*];done)))
     refine gk_ret env ?_
     rw[toksD,if_neg c1,headT,if_pos c2,tailT,if_neg (by omega),if_neg (by omega)];rfl
  ·try simp only[toN]at c2
   refine gk_region env false [.call (rwordT_ok kField),.call (rwordT_ok d.doc),.call (rsignT_ok kDot),.call (rwordT_ok d.field),.el default tkC [tkW kField,tkW d.doc,tkS kDot,tkW d.field]] [1,2,4] ?_
   refine gk_region env false [] [1,2,4,29] ?_
   refine gk_ifd (fun c5=> ?_) (fun c5=> ?_)
   ·try simp only[toN]at c5
    refine gk_region env false [.call (rwordT_ok kIs),.call (rsignT_ok kSemi),.el default tkC [tkW kIs,⟨2,d.text,0,0⟩,tkS kSemi],.el default tkC ([tkW kField,tkW d.doc,tkS kDot,tkW d.field]++ [tkW kIs,⟨2,d.text,0,0⟩,tkS kSemi])] [1,2,4] ?_ (hp:=(by simp only[AllP,Int.toNat_natCast];repeat' first|exact trivial|exact EntL.refl _|exact BEntL.refl _|exact rfl|omega|apply And.intro|intro _|(simp[rowL];done)|(simp only[List.length_append,List.length_cons,List.length_nil];omega)|(simp[*];done)))
    refine gk_ret env ?_
    rw[toksD,if_neg c1,headT,if_neg c2,tailT,if_pos (by assumption)];rfl
   ·try simp only[toN]at c5
    refine gk_region env false [] [1,2,4,40] ?_
    refine gk_ifd (fun c6=> ?_) (fun c6=> ?_)
    ·try simp only[toN]at c6
     refine gk_region env false [.call (rwordT_ok kSame),.call (rwordT_ok d.other),.call (rsignT_ok kDot),.call (rwordT_ok d.second),.call (rsignT_ok kSemi),.el default tkC [tkW kSame,tkW d.other,tkS kDot,tkW d.second,tkS kSemi],.el default tkC ([tkW kField,tkW d.doc,tkS kDot,tkW d.field]++ [tkW kSame,tkW d.other,tkS kDot,tkW d.second,tkS kSemi])] [1,2,4] ?_ (hp:=(by simp only[AllP,Int.toNat_natCast];repeat' first|exact trivial|exact EntL.refl _|exact BEntL.refl _|exact rfl|omega|apply And.intro|intro _|(simp[rowL];done)|(simp only[List.length_append,List.length_cons,List.length_nil];omega)|(simp[*];done)))
     refine gk_ret env ?_
     rw[toksD,if_neg c1,headT,if_neg c2,tailT,if_neg (by assumption),if_pos (by assumption)];rfl
    ·try simp only[toN]at c6
     refine gk_region env false [.call (rwordT_ok kFrom),.call (digits_ok d.lo hlo.1 (by omega)),.call (rwordT_ok kTo),.call (digits_ok d.hi hhi.1 (by omega)),.call (rsignT_ok kSemi),.el default tkC [tkW kFrom,⟨1,digs d.lo,0,0⟩,tkW kTo,⟨1,digs d.hi,0,0⟩,tkS kSemi],.el default tkC ([tkW kField,tkW d.doc,tkS kDot,tkW d.field]++ [tkW kFrom,⟨1,digs d.lo,0,0⟩,tkW kTo,⟨1,digs d.hi,0,0⟩,tkS kSemi])] [2] ?_ (hp:=(by simp only[AllP,Int.toNat_natCast];repeat' first|exact trivial|exact EntL.refl _|exact BEntL.refl _|exact rfl|omega|apply And.intro|intro _|(simp[rowL];done)|(simp only[List.length_append,List.length_cons,List.length_nil];omega)|(simp[*];done)))
     refine gk_ret env ?_
     rw[toksD,if_neg c1,headT,if_neg c2,tailT,if_neg (by assumption),if_neg (by assumption)];rfl
def tkTx (t:Tk):ByteArray:=if t.kind=2 then escR t.text else t.text
def prF (l:List Tk) (i:Nat) (acc:ByteArray):ByteArray:=if i<l.length then prF l (i+1) ((if 0<i then acc++⟨#[32]⟩else acc)++tkTx (l.getD i default))else acc
termination_by l.length-i
def prT (l:List Tk):ByteArray:=prF l 0 ⟨#[]⟩
def tkZ (t:Tk):Nat:=(tkTx t).size+1
def sumZ (l:List Tk):Nat:=(l.map tkZ).sum
theorem sumZ_step {l:List Tk} {i:Nat} (h:i<l.length):sumZ (l.take (i+1))=sumZ (l.take i)+((tkTx (l.getD i default)).size+1):=by
 have e:l.getD i default=l[i]:=by rw[List.getD_eq_getElem?_getD,List.getElem?_eq_getElem h];rfl
 rw[sumZ,List.take_succ_eq_append_getElem h,List.map_append,List.sum_append,e]
 simp[sumZ,tkZ]
theorem sumZ_take (l:List Tk) (i:Nat):sumZ (l.take i)≤sumZ l:=by
 have:sumZ l=sumZ (l.take i)+sumZ (l.drop i):=by
  unfold sumZ
  rw[←List.sum_append,←List.map_append,List.take_append_drop]
 omega
theorem prF_size {l:List Tk} :∀(k i:Nat) (acc:ByteArray),l.length-i=k→(prF l i acc).size+sumZ (l.take i)≤acc.size+sumZ (l.take (i+k)):=by
 intro k
 induction k with
 |zero=>intro i acc h;rw[prF,if_neg (by omega)];exact Nat.le_refl _
 |succ k ih=>
  intro i acc h
  rw[prF,if_pos (by omega)]
  have h1:=ih (i+1) ((if 0<i then acc++⟨#[32]⟩else acc)++tkTx (l.getD i default)) (by omega)
  rw[sumZ_step (by omega),ba_size,show i+1+k=i+(k+1)by omega]at h1
  have h2:(if 0<i then acc++⟨#[32]⟩else acc).size≤acc.size+1:=by
   split
   ·rw[ba_size];exact Nat.le_refl _
   ·omega
  omega
theorem prT_size (l:List Tk):(prT l).size≤sumZ l:=by
 have:=prF_size (l:=l) l.length 0 ⟨#[]⟩ (by omega)
 have e1:sumZ (l.take 0)=0:=rfl
 have e2:(⟨#[]⟩:ByteArray).size=0:=rfl
 have e3:=sumZ_take l (0+l.length)
 unfold prT
 omega
structure PrI (l:List Tk) (i:Nat) (acc:ByteArray):Prop where
 le:i≤l.length
 sz:acc.size≤sumZ (l.take i)
 eq:prT l=prF l i acc
theorem one32:(⟨#[32]⟩:ByteArray).size=1:=rfl
theorem rprT_ok (l:List Tk) (hl:l.length≤1000) (hz:sumZ l≤1000000000) (hx:∀t,t∈l→t.text.size≤1000):GC Tryz.prog 85 [rowTk l] (sG (prT l)):=by
 refine gc_of_gk Tryz.func85 ?_
 refine gk_region env false [] [0,2] ?_
 refine gk_region env false [] [0,2,3] ?_
 refine gk_region env false [] [0,2,3,4] ?_
 refine gk_loop (α:=Nat×ByteArray) (fun x=>PrI l x.1 x.2) (fun x=>[(4,iG x.1),(3,sG x.2)]) (fun _=>[]) (fun x=>l.length-x.1) (0,⟨#[]⟩) ⟨Nat.zero_le _,Nat.zero_le _,rfl⟩ ?_
 rintro ⟨i,acc⟩ hI
 dsimp only at*
 have h1:=hI.le
 have h2:=hI.sz
 have h3:=sumZ_take l i
 have h4:=sumZ_take l (i+1)
 have hst:=fun h:i<l.length=>sumZ_step h
 refine gk_region env false [] [0,2,3,4,8] ?_
 refine gk_ifd (fun c1=> ?_) (fun c1=> ?_)
 ·try simp only[toN]at c1
  have hst2:=hst (by omega)
  refine gk_region env false [] [0,2,3,4,12] ?_
  refine gk_ifd (fun c2=> ?_) (fun c2=> ?_)
  ·try simp only[toN]at c2
   refine gk_region env false [] [0,2,3,4] ?_ (hp:=(by simp only[AllP,bb,toN,ba_size,one32];repeat' first|exact trivial|omega|exact EntL.refl _|exact rfl|apply And.intro))
   refine gk_region env false [] [0,2,3,4,20] ?_
   refine gk_ifd (fun c3=> ?_) (fun c3=> ?_)
   ·try simp only[toN]at c3
    have hes:=escR_size (l.getD i default).text
    have hx2:=hx (l.getD i default) (getD_mem (by omega))
    refine gk_region env false [.call (resc_ok (l.getD i default).text hx2)] [0,2,3,4] ?_ (hp:=(by simp only[AllP,bb,toN,ba_size,one32];repeat' first|exact trivial|omega|exact EntL.refl _|exact rfl|apply And.intro))
    refine gk_region env false [] [0,2,3,4] ?_
    refine gk_round ((i+1,acc++⟨#[32]⟩++escR (l.getD i default).text)) ?_
    have hk:tkTx (l.getD i default)=escR (l.getD i default).text:=if_pos c3
    rw[hk]at hst2
    refine ⟨by simp only;omega,by simp only[ba_size,one32,sumZ_step (show i<l.length by omega),hk];omega,hI.eq.trans ?_⟩
    rw[prF,if_pos (by omega),if_pos (by omega),hk]
   ·try simp only[toN]at c3
    have hx2:=hx (l.getD i default) (getD_mem (by omega))
    refine gk_region env false [] [0,2,3,4] ?_ (hp:=(by simp only[AllP,bb,toN,ba_size,one32];repeat' first|exact trivial|omega|exact EntL.refl _|exact rfl|apply And.intro))
    refine gk_region env false [] [0,2,3,4] ?_
    refine gk_round ((i+1,acc++⟨#[32]⟩++(l.getD i default).text)) ?_
    have hk:tkTx (l.getD i default)=(l.getD i default).text:=if_neg c3
    rw[hk]at hst2
    refine ⟨by simp only;omega,by simp only[ba_size,one32,sumZ_step (show i<l.length by omega),hk];omega,hI.eq.trans ?_⟩
    rw[prF,if_pos (by omega),if_pos (by omega),hk]
  ·try simp only[toN]at c2
   refine gk_region env false [] [0,2,3,4,20] ?_
   refine gk_ifd (fun c4=> ?_) (fun c4=> ?_)
   ·try simp only[toN]at c4
    have hes:=escR_size (l.getD i default).text
    have hx2:=hx (l.getD i default) (getD_mem (by omega))
    refine gk_region env false [.call (resc_ok (l.getD i default).text hx2)] [0,2,3,4] ?_ (hp:=(by simp only[AllP,bb,toN,ba_size,one32];repeat' first|exact trivial|omega|exact EntL.refl _|exact rfl|apply And.intro))
    refine gk_region env false [] [0,2,3,4] ?_
    refine gk_round ((i+1,acc++escR (l.getD i default).text)) ?_
    have hk:tkTx (l.getD i default)=escR (l.getD i default).text:=if_pos c4
    rw[hk]at hst2
    refine ⟨by simp only;omega,by simp only[ba_size,one32,sumZ_step (show i<l.length by omega),hk];omega,hI.eq.trans ?_⟩
    rw[prF,if_pos (by omega),if_neg (by omega),hk]
   ·try simp only[toN]at c4
    have hx2:=hx (l.getD i default) (getD_mem (by omega))
    refine gk_region env false [] [0,2,3,4] ?_ (hp:=(by simp only[AllP,bb,toN,ba_size,one32];repeat' first|exact trivial|omega|exact EntL.refl _|exact rfl|apply And.intro))
    refine gk_region env false [] [0,2,3,4] ?_
    refine gk_round ((i+1,acc++(l.getD i default).text)) ?_
    have hk:tkTx (l.getD i default)=(l.getD i default).text:=if_neg c4
    rw[hk]at hst2
    refine ⟨by simp only;omega,by simp only[ba_size,one32,sumZ_step (show i<l.length by omega),hk];omega,hI.eq.trans ?_⟩
    rw[prF,if_pos (by omega),if_neg (by omega),hk]
 ·try simp only[toN]at c1
  refine gk_region env false [] [2] ?_
  refine gk_ret env ?_
  have e:prT l=acc:=by rw[hI.eq,prF,if_neg (by omega)]
  rw[e];rfl
end Go.Gh
namespace Go.Gh
open Go Go.Proofs
set_option maxRecDepth 1000000
set_option maxHeartbeats 2000000
set_option linter.unusedSimpArgs false
set_option linter.unusedVariables false
set_option linter.unnecessarySimpa false
set_option linter.unusedSectionVars false
variable [PowTab] [ItoaU]
open Go.RowKit
theorem sumZ_app (a b:List Tk):sumZ (a++b)=sumZ a+sumZ b:=by simp[sumZ]
theorem sumZ_cons (t:Tk) (b:List Tk):sumZ (t::b)=tkZ t+sumZ b:=by simp[sumZ]
theorem sumZ_nil:sumZ []=0:=rfl
theorem tkZ_w (s:ByteArray):tkZ (tkW s)=s.size+1:=rfl
theorem tkZ_s (s:ByteArray):tkZ (tkS s)=s.size+1:=rfl
theorem tkZ_1 (s:ByteArray):tkZ ⟨1,s,0,0⟩=s.size+1:=rfl
theorem tkZ_2 (s:ByteArray):tkZ ⟨2,s,0,0⟩=(escR s).size+1:=rfl
theorem kz:kNeed.size=4∧kSemi.size=1∧kDot.size=1∧kSum.size=3∧kField.size=5∧kIs.size=2∧kSame.size=4∧kFrom.size=4∧kTo.size=2:=⟨rfl,rfl,rfl,rfl,rfl,rfl,rfl,rfl,rfl⟩
structure TokB (l:List Tk) (n:Nat):Prop where
 len:l.length≤9*n
 z:sumZ l≤940*n
 tx:∀t,t∈l→t.text.size≤1000
theorem TokB.app {a b:List Tk} {n:Nat} (h:TokB a n) (k:TokB b 1):TokB (a++b) (n+1):=
 ⟨by have:=h.len;have:=k.len;rw[List.length_append];omega,by have:=h.z;have:=k.z;rw[sumZ_app];omega,fun t ht=>by
  rcases List.mem_append.1 ht with ht|ht
  ·exact h.tx t ht
  ·exact k.tx t ht⟩
theorem toksD_b {d:Dm} (hf:FewD d) (hd:Fine d):TokB (toksD d) 1:=by
 obtain ⟨f1,f2,f3,f4,f5⟩:=hf
 obtain ⟨c1,c2,c3,c4,c5⟩:=hd
 obtain ⟨k1,k2,k3,k4,k5,k6,k7,k8,k9⟩:=kz
 have he:=escR_size d.text
 unfold toksD
 split
 ·refine ⟨by simp,by simp only[sumZ_cons,sumZ_nil,tkZ_w,tkZ_s,k1,k2];omega,fun t ht=> ?_⟩
  simp only[List.mem_cons,List.not_mem_nil,or_false]at ht
  rcases ht with rfl|rfl|rfl
  ·show kNeed.size≤_;omega
  ·show d.doc.size≤_;omega
  ·show kSemi.size≤_;omega
 ·have hh:(headT d).length=4∧sumZ (headT d)≤140∧∀t,t∈headT d→t.text.size≤1000:=by
   unfold headT
   refine ⟨rfl,?_,fun t ht=> ?_⟩
   ·have:(if d.op=4 then kSum else kField).size≤5:=by split<;>omega
    simp only[sumZ_cons,sumZ_nil,tkZ_w,tkZ_s,k3];omega
   ·simp only[List.mem_cons,List.not_mem_nil,or_false]at ht
    rcases ht with rfl|rfl|rfl|rfl
    ·show (if d.op=4 then kSum else kField).size≤_;split<;>omega
    ·show d.doc.size≤_;omega
    ·show kDot.size≤_;omega
    ·show d.field.size≤_;omega
  have ht:(tailT d).length≤5∧sumZ (tailT d)≤810∧sumZ (headT d)+sumZ (tailT d)≤940∧∀t,t∈tailT d→t.text.size≤1000:=by
   have hh2:sumZ (headT d)≤130:=by
    have:(if d.op=4 then kSum else kField).size≤5:=by split<;>omega
    unfold headT
    simp only[sumZ_cons,sumZ_nil,tkZ_w,tkZ_s,k3];omega
   unfold tailT
   split
   ·rename_i h1
    have hv:d.text.size≤400:=by
     have:=c4.1.resolve_left (fun h=>h h1)
     simp[valueOk]at this;omega
    have hz:sumZ [tkW kIs,⟨2,d.text,0,0⟩,tkS kSemi]≤810:=by simp only[sumZ_cons,sumZ_nil,tkZ_w,tkZ_s,tkZ_2,k6,k2];omega
    refine ⟨by simp,hz,by omega,fun t ht=> ?_⟩
    simp only[List.mem_cons,List.not_mem_nil,or_false]at ht
    rcases ht with rfl|rfl|rfl
    ·show kIs.size≤_;omega
    ·show d.text.size≤_;omega
    ·show kSemi.size≤_;omega
   ·split
    ·have hz:sumZ [tkW kSame,tkW d.other,tkS kDot,tkW d.second,tkS kSemi]≤800:=by simp only[sumZ_cons,sumZ_nil,tkZ_w,tkZ_s,k7,k2,k3];omega
     refine ⟨by simp,by omega,by omega,fun t ht=> ?_⟩
     simp only[List.mem_cons,List.not_mem_nil,or_false]at ht
     rcases ht with rfl|rfl|rfl|rfl|rfl
     ·show kSame.size≤_;omega
     ·show d.other.size≤_;omega
     ·show kDot.size≤_;omega
     ·show d.second.size≤_;omega
     ·show kSemi.size≤_;omega
    ·have hl:(0≤d.lo∧d.lo≤1099511627776)∧(0≤d.hi∧d.hi≤1099511627776):=by split at c5<;>omega
     have z1:=digs_size hl.1.1 (by omega)
     have z2:=digs_size hl.2.1 (by omega)
     have hz:sumZ [tkW kFrom,⟨1,digs d.lo,0,0⟩,tkW kTo,⟨1,digs d.hi,0,0⟩,tkS kSemi]≤800:=by simp only[sumZ_cons,sumZ_nil,tkZ_w,tkZ_s,tkZ_1,k8,k9,k2];omega
     refine ⟨by simp,by omega,by omega,fun t ht=> ?_⟩
     simp only[List.mem_cons,List.not_mem_nil,or_false]at ht
     rcases ht with rfl|rfl|rfl|rfl|rfl
     ·show kFrom.size≤_;omega
     ·show (digs d.lo).size≤_;omega
     ·show kTo.size≤_;omega
     ·show (digs d.hi).size≤_;omega
     ·show kSemi.size≤_;omega
  refine ⟨by rw[List.length_append];omega,by rw[sumZ_app];omega,fun t h=> ?_⟩
  rcases List.mem_append.1 h with h|h
  ·exact hh.2.2 t h
  ·exact ht.2.2.2 t h
theorem Fine.lo {d:Dm} (h:Fine d):(0≤d.lo∧d.lo≤1099511627776)∧(0≤d.hi∧d.hi≤1099511627776):=by
 have h5:=h.2.2.2.2
 split at h5<;>omega
def rpF (l:List Dm) (i:Nat) (acc:List Tk):Option (List Tk):=if i<l.length then if Fine (l.getD i default)then rpF l (i+1) (acc++toksD (l.getD i default))else none else some acc
termination_by l.length-i
def rprintS (l:List Dm):ByteArray:=if (20:Int)<l.length then ⟨#[]⟩else match rpF l 0 []with
 |none=>⟨#[]⟩
 |some r=>prT r
def rprintOk (l:List Dm):Bool:=if (20:Int)<l.length then false else (rpF l 0 []).isSome
structure RpI (l:List Dm) (i:Nat) (acc:List Tk):Prop where
 le:i≤l.length
 b:TokB acc i
 eq:rpF l 0 []=rpF l i acc
theorem rprint_ok (l:List Dm) (hl:l.length≤1000) (hf:∀d,d∈l→FewD d):GC Tryz.prog 52 [rowD l] (.tup [sG (rprintS l),bG (rprintOk l)]):=by
 refine gc_of_gk Tryz.func52 ?_
 refine gk_region env false [] [0,2,3] ?_
 refine gk_region env false [] [0,2,3,9] ?_
 refine gk_ifd (fun c1=> ?_) (fun c1=> ?_)
 ·try simp only[toN]at c1
  refine gk_region env false [] [0,2,3] ?_
  refine gk_ret env ?_
  rw[rprintS,if_pos c1,rprintOk,if_pos c1];rfl
 ·try simp only[toN]at c1
  refine gk_region env false [] [0,2,3,4] ?_
  refine gk_nil 4 187 4 (default:Tk) tkC (by rfl) (by rfl) ?_
  refine gk_region env false [] [0,2,3,4,5] ?_
  refine gk_loop (α:=Nat×List Tk) (fun x=>RpI l x.1 x.2) (fun x=>[(5,iG x.1),(4,.sl 0 4 0 x.2.length)]) (fun x=>[(0,some (.row 187 4 (default:Tk) tkC x.2 0))]) (fun x=>l.length-x.1) (0,[]) ⟨Nat.zero_le _,⟨Nat.zero_le _,Nat.zero_le _,fun t h=>(by cases h)⟩,rfl⟩ ?_ (hp:=by simp only[AllP];repeat' first|exact trivial|exact EntL.refl _|exact BEntL.refl _|exact rfl|omega|apply And.intro|intro _)
  rintro ⟨i,acc⟩ hI
  dsimp only at*
  have h1:=hI.le
  have hb:=hI.b
  have hb1:=hb.len
  have hb2:=hb.z
  refine gk_region env false [] [0,2,3,4,5,13] ?_
  refine gk_ifd (fun c2=> ?_) (fun c2=> ?_)
  ·try simp only[toN]at c2
   have hfd:=hf (l.getD i default) (getD_mem (by omega))
   refine gk_region env false [.call (fine_ok (l.getD i default) hfd)] [0,2,3,4,5,21] ?_
   refine gk_if (fun c3=> ?_) (fun c3=> ?_)
   ·try simp only[bb,toN]at c3
    refine gk_region env false [] [0,2,3,4,5] ?_
    refine gk_ret env ?_
    have e:rpF l 0 []=none:=by rw[hI.eq,rpF,if_pos (by omega),if_neg c3]
    rw[rprintS,if_neg c1,rprintOk,if_neg c1,e];rfl
   ·try simp only[bb,toN]at c3
    have hlo:=c3.lo
    have hbb:=(toksD_b hfd c3).len
    refine gk_region env false [.call (toks_ok (l.getD i default) hlo.1 hlo.2),.el default tkC (acc++toksD (l.getD i default))] [0,2,3,4,5] ?_ (hp:=(by simp only[AllP,Int.toNat_natCast];repeat' first|exact trivial|exact EntL.refl _|exact BEntL.refl _|exact rfl|omega|apply And.intro|intro _|(simp[rowL];done)|(simp only[List.length_append,List.length_cons,List.length_nil];omega)|(simp[*];done)))
    refine gk_region env false [] [0,2,3,4,5] ?_
    refine gk_round ((i+1,acc++toksD (l.getD i default))) ?_ (hp:=by simp only[AllP];repeat' first|exact trivial|exact EntL.refl _|exact BEntL.refl _|exact rfl|omega|apply And.intro|intro _|(simp;done))
    refine ⟨by simp only;omega,hb.app (toksD_b hfd c3),hI.eq.trans ?_⟩
    rw[rpF,if_pos (by omega),if_pos c3]
  ·try simp only[toN]at c2
   refine gk_region env false [.call (rprT_ok acc (by omega) (by omega) hb.tx)] [2,3,6] ?_
   refine gk_region env false [] [2,3,6,33] ?_
   refine gk_ifd (fun c4=> ?_) (fun c4=> ?_)
   ·try simp only[toN]at c4
    refine gk_region env false [] [2,3,6] ?_
    refine gk_ret env ?_
    have:=prT_size acc
    omega
   ·try simp only[toN]at c4
    refine gk_region env false [] [2,3] ?_
    refine gk_ret env ?_
    have e:rpF l 0 []=some acc:=by rw[hI.eq,rpF,if_neg (by omega)]
    rw[rprintS,if_neg c1,rprintOk,if_neg c1,e];rfl
theorem rwritten_ok (l:List Dm) (hl:l.length≤1000) (hf:∀d,d∈l→FewD d):GC Tryz.prog 33 [rowD l] (bG (rprintOk l)):=by
 refine gc_of_gk Tryz.func33 ?_
 refine gk_region env false [] [0,2] ?_
 refine gk_region env false [.call (rprint_ok l hl hf)] [2,4] ?_
 refine gk_region env false [] [2] ?_
 refine gk_ret env ?_
 rfl
end Go.Gh
namespace Go.Gh
open Go Go.Proofs
set_option maxRecDepth 1000000
set_option maxHeartbeats 2000000
set_option linter.unusedSimpArgs false
set_option linter.unusedVariables false
set_option linter.unnecessarySimpa false
set_option linter.unusedSectionVars false
variable [PowTab] [ItoaU]
open Go.RowKit
theorem sameInts37_ok (a b:List Int) (ha:a.length≤9223372036854775807) (hb:b.length≤9223372036854775807):GC Tryz.prog 36 [rowI a,rowI b] (bG (decide (a=b))):=by
 refine gc_of_gk Tryz.func36 ?_
 refine gk_region env false [] [0,1,4] ?_
 refine gk_region env false [] [0,1,4,10] ?_
 refine gk_ifn (fun c1=> ?_) (fun c1=> ?_)
 ·try simp only[toN]at c1
  refine gk_region env false [] [0,1,4] ?_
  refine gk_ret env ?_
  have e:¬a=b:=fun h=>c1 (by rw[h])
  simp[e,tupG]
 ·try simp only[toN]at c1
  refine gk_region env false [] [0,1,4,5] ?_
  refine gk_loop (α:=Nat) (fun i=>i≤a.length∧∀j,j<i→a.getD j default=b.getD j default) (fun i=>[(5,iG i)]) (fun _=>[]) (fun i=>a.length-i) 0 ⟨by omega,fun j h=>by omega⟩ ?_
  rintro i ⟨hi,he⟩
  refine gk_region env false [] [0,1,4,5,14] ?_
  refine gk_ifd (fun c2=> ?_) (fun c2=> ?_)
  ·try simp only[toN]at c2
   refine gk_region env false [] [0,1,4,5,25] ?_
   refine gk_ifn (fun c3=> ?_) (fun c3=> ?_)
   ·try simp only[toN]at c3
    refine gk_region env false [] [0,1,4,5] ?_
    refine gk_ret env ?_
    have e:¬a=b:=fun h=>by subst h;simp at c3
    simp[e,tupG]
   ·try simp only[toN]at c3
    refine gk_region env false [] [0,1,4,5] ?_
    refine gk_round (i+1) ?_
    refine ⟨by omega,fun j hj=> ?_⟩
    by_cases e:j=i
    ·subst e;exact c3
    ·exact he j (by omega)
  ·try simp only[toN]at c2
   refine gk_region env false [] [4] ?_
   refine gk_ret env ?_
   have e:a=b:=ext_getD (by omega) fun j h=>he j (by omega)
   simp[e,tupG]
theorem sameErrs_ok (a b:List Int) (ha:a.length≤9223372036854775807) (hb:b.length≤9223372036854775807):GC Tryz.prog 15 [rowI a,rowI b] (bG (decide (a=b))):=by
 refine gc_of_gk Tryz.func15 ?_
 refine gk_region env false [] [0,1,4] ?_
 refine gk_region env false [] [0,1,4,10] ?_
 refine gk_ifn (fun c1=> ?_) (fun c1=> ?_)
 ·try simp only[toN]at c1
  refine gk_region env false [] [0,1,4] ?_
  refine gk_ret env ?_
  have e:¬a=b:=fun h=>c1 (by rw[h])
  simp[e,tupG]
 ·try simp only[toN]at c1
  refine gk_region env false [] [0,1,4,5] ?_
  refine gk_loop (α:=Nat) (fun i=>i≤a.length∧∀j,j<i→a.getD j default=b.getD j default) (fun i=>[(5,iG i)]) (fun _=>[]) (fun i=>a.length-i) 0 ⟨by omega,fun j h=>by omega⟩ ?_
  rintro i ⟨hi,he⟩
  refine gk_region env false [] [0,1,4,5,14] ?_
  refine gk_ifd (fun c2=> ?_) (fun c2=> ?_)
  ·try simp only[toN]at c2
   refine gk_region env false [] [0,1,4,5,25] ?_
   refine gk_ifn (fun c3=> ?_) (fun c3=> ?_)
   ·try simp only[toN]at c3
    refine gk_region env false [] [0,1,4,5] ?_
    refine gk_ret env ?_
    have e:¬a=b:=fun h=>by subst h;simp at c3
    simp[e,tupG]
   ·try simp only[toN]at c3
    refine gk_region env false [] [0,1,4,5] ?_
    refine gk_round (i+1) ?_
    refine ⟨by omega,fun j hj=> ?_⟩
    by_cases e:j=i
    ·subst e;exact c3
    ·exact he j (by omega)
  ·try simp only[toN]at c2
   refine gk_region env false [] [4] ?_
   refine gk_ret env ?_
   have e:a=b:=ext_getD (by omega) fun j h=>he j (by omega)
   simp[e,tupG]
def ledEq (a b:Led):Bool:=decide (a.drawn=b.drawn∧a.paid=b.paid∧a.left=b.left∧a.moved=b.moved∧a.second=b.second∧a.amended=b.amended)
theorem sameLed_ok (a b:Led) (ha:a.amended.length≤9223372036854775807) (hb:b.amended.length≤9223372036854775807):GC Tryz.prog 14 [ledG a,ledG b] (bG (ledEq a b)):=by
 refine gc_of_gk Tryz.func14 ?_
 refine gk_region env false [] [2,3,4] ?_
 refine gk_box 0 ?_
 refine gk_box 1 ?_
 refine gk_region env false [.call (sameInts37_ok a.amended b.amended ha hb)] [4] ?_
 refine gk_ret env ?_
 simp only[tupG,ledEq,Bool.cond_false_right,Bool.decide_and,Bool.and_assoc]
structure Cn2 (l:List Dc) (i:Nat) (acc:List Int) (n:Int):Prop where
 le:i≤l.length
 ci:CntI l i acc n
 eq:cntF l 0 [] 1=cntF l i acc n
theorem count34_ok (l:List Dc) (hl:FitL l):GC Tryz.prog 51 [rowDc l] (.tup [iG (countsE l).2.1,iG (countsE l).2.2]):=by
 have hl1:=hl.len
 refine gc_of_gk Tryz.func51 ?_
 refine gk_region env false [] [0,2,3] ?_
 refine gk_region env false [] [0,2,3,12] ?_
 refine gk_ifd (fun c1=> ?_) (fun c1=> ?_)
 ·try simp only[toN]at c1
  refine gk_region env false [] [0,2,3] ?_
  refine gk_ret env ?_
  rw[countsE,if_pos (by omega)];rfl
 ·try simp only[toN]at c1
  refine gk_region env false [] [0,2,3,4] ?_
  refine gk_loop (α:=Nat) (fun i=>i≤l.length∧dchk l 0=dchk l i) (fun i=>[(4,iG i)]) (fun _=>[]) (fun i=>l.length-i) 0 ⟨by omega,rfl⟩ ?_
  rintro i ⟨hi,he⟩
  refine gk_region env false [] [0,2,3,4,16] ?_
  refine gk_ifd (fun c2=> ?_) (fun c2=> ?_)
  ·try simp only[toN]at c2
   refine gk_region env false [.call (GC.lift (rcheck_ok (l.getD i default) (hl.at_ (by omega))))] [0,2,3,4,5] ?_
   refine gk_region env false [] [0,2,3,4,5,25] ?_
   refine gk_ifn (fun c3=> ?_) (fun c3=> ?_)
   ·try simp only[toN]at c3
    refine gk_region env false [] [0,2,3,4] ?_
    refine gk_ret env ?_
    have e:dchk l 0=checkE (l.getD i default):=by rw[he,dchk,if_pos (by omega),if_neg c3]
    have e2:countsE l=([],0,checkE (l.getD i default)):=by rw[countsE,if_neg (by omega),if_neg (by rw[e];exact c3),e]
    rw[e2];rfl
   ·try simp only[toN]at c3
    refine gk_region env false [] [0,2,3,4] ?_
    refine gk_round (i+1) ?_
    refine ⟨by omega,he.trans ?_⟩
    rw[dchk,if_pos (by omega),if_pos c3]
  ·try simp only[toN]at c2
   have hd:dchk l 0=0:=by rw[he,dchk,if_neg (by omega)]
   refine gk_region env false [] [0,2,3,6] ?_
   refine gk_region env false [] [0,2,3,6,7] ?_
   refine gk_loop (α:=Nat×List Int×Int) (fun x=>Cn2 l x.1 x.2.1 x.2.2) (fun x=>[(7,iG x.1),(6,iG x.2.2)]) (fun _=>[]) (fun x=>l.length-x.1) (0,[],1) ⟨Nat.zero_le _,cntI_0 l,rfl⟩ ?_
   rintro ⟨i,acc,n⟩ hI
   dsimp only at*
   have h1:=hI.le
   have hm:=hI.ci.mul (l.getD i default)
   have hn0:=hI.ci.n0
   have hn1:=hI.ci.n1
   refine gk_region env false [] [0,2,3,6,7,30] ?_
   refine gk_ifd (fun c4=> ?_) (fun c4=> ?_)
   ·try simp only[toN]at c4
    refine gk_region env false [.call (GC.lift (rcount_ok (l.getD i default) (hl.at_ (by omega))))] [0,2,3,6,7,8,9] ?_
    refine gk_region env false [] [0,2,3,6,7,8,48] ?_
    refine gk_if (fun c5=> ?_) (fun c5=> ?_)
    ·try simp only[bb,toN]at c5
     refine gk_region env false [] [0,2,3,6,7,8] ?_
     refine gk_ret env ?_
     have e:cntF l 0 [] 1=none:=by rw[hI.eq,cntF,if_pos (by omega),if_pos (by simp only[cntBad,Bool.or_eq_true,Bool.not_eq_true',decide_eq_true_eq,decide_eq_false_iff_not];omega)]
     have e2:countsE l=([],0,6):=by rw[countsE,if_neg (by omega),if_pos hd,e]
     rw[e2];rfl
    ·try simp only[bb,toN]at c5
     have hb0:cntBad (l.getD i default) n=false:=by simp only[cntBad,Bool.or_eq_false_iff,Bool.not_eq_false',decide_eq_true_eq,decide_eq_false_iff_not];omega
     refine gk_region env false [] [0,2,3,6,7] ?_
     refine gk_region env false [] [0,2,3,6,7] ?_
     refine gk_round ((i+1,acc++ [(countE (l.getD i default)).1],n*(countE (l.getD i default)).1)) ?_
     refine ⟨by simp only;omega,hI.ci.step hb0,hI.eq.trans ?_⟩
     rw[cntF,if_pos (by omega),if_neg (by rw[hb0];simp)]
   ·try simp only[toN]at c4
    refine gk_region env false [] [2,3] ?_
    refine gk_ret env ?_
    have e:cntF l 0 [] 1=some (acc,n):=by rw[hI.eq,cntF,if_neg (by omega)]
    have e2:countsE l=(acc,n,0):=by rw[countsE,if_neg (by omega),if_pos hd,e]
    rw[e2];rfl
end Go.Gh
namespace Go.Gh
open Go Go.Proofs
set_option maxRecDepth 1000000
set_option maxHeartbeats 2000000
set_option linter.unusedSimpArgs false
set_option linter.unusedVariables false
set_option linter.unnecessarySimpa false
set_option linter.unusedSectionVars false
variable [PowTab] [ItoaU]
open Go.RowKit
def few34F (docs:List Dc) (i:Nat):Bool:=if i<docs.length∧i<12 then if fewD (docs.getD i default)=true then few34F docs (i+1)else false else true
termination_by docs.length-i
def few34V (l:List Dm) (docs:List Dc):Bool:=if few34F docs 0=true then if ((8:Int)<l.length∨(12:Int)<docs.length)∨few33V l=false then false else (if (countsE docs).2.2=0 then decide ((countsE docs).2.1≤128)else true)else false
theorem few34F_spec {docs:List Dc} :∀(k i:Nat),docs.length-i=k→few34F docs i=true→docs.length≤12→∀j,i≤j→j<docs.length→fewD (docs.getD j default)=true:=by
 intro k
 induction k with
 |zero=>intro i h _ _ j h1 h2;omega
 |succ k ih=>
  intro i h hf hl j h1 h2
  rw[few34F,if_pos (by omega)]at hf
  split at hf
  ·rename_i hd
   by_cases e:j=i
   ·subst e;exact hd
   ·exact ih (i+1) (by omega) hf hl j (by omega) h2
  ·cases hf
theorem few34_fit {docs:List Dc} (h:few34F docs 0=true) (hl:docs.length≤12):FitL docs:=⟨by omega,fun d hd=>by
 obtain ⟨j,h1,h2⟩:=mem_getD hd
 have:=few34F_spec _ 0 rfl h hl j (Nat.zero_le _) h1
 rw[h2]at this
 exact few_fit this⟩
theorem few34_spec {l:List Dm} {docs:List Dc} (h:few34V l docs=true):(l.length≤8∧∀d,d∈l→FewD d)∧docs.length≤12∧FitL docs∧((countsE docs).2.2=0→(countsE docs).2.1≤128):=by
 unfold few34V at h
 split at h
 ·rename_i h1
  split at h
  ·cases h
  ·rename_i h2
   have hf:few33V l=true:=by
    cases e:few33V l with
    |true=>rfl
    |false=>exact absurd (.inr e) h2
   refine ⟨⟨by omega,(few33V_spec hf).2⟩,by omega,few34_fit h1 (by omega),fun e=> ?_⟩
   rw[if_pos e]at h
   exact of_decide_eq_true h
 ·cases h
theorem few34_ok (l:List Dm) (hl:l.length≤9223372036854775807) (docs:List Dc) (hd:docs.length≤9223372036854775807):GC Tryz.prog 32 [rowD l,rowDc docs] (bG (few34V l docs)):=by
 refine gc_of_gk Tryz.func32 ?_
 refine gk_region env false [] [0,1,4] ?_
 refine gk_region env false [] [0,1,4,5] ?_
 refine gk_loop (α:=Nat) (fun i=>i≤docs.length∧few34F docs 0=few34F docs i) (fun i=>[(5,iG i)]) (fun _=>[]) (fun i=>docs.length-i) 0 ⟨by omega,rfl⟩ ?_
 rintro i ⟨hi,he⟩
 refine gk_region env false [] [0,1,4,5,15] ?_
 refine gk_if (fun c1=> ?_) (fun c1=> ?_)
 ·try simp only[bb,toN]at c1
  refine gk_region env false [.call (GC.lift (few_ok (docs.getD i default)))] [0,1,4,5,23] ?_
  refine gk_if (fun c2=> ?_) (fun c2=> ?_)
  ·try simp only[bb,toN]at c2
   refine gk_region env false [] [0,1,4,5] ?_
   refine gk_ret env ?_
   have e:few34F docs 0=false:=by rw[he,few34F,if_pos (by omega),if_neg (by rw[c2];simp)]
   rw[few34V,if_neg (by rw[e];simp)];rfl
  ·try simp only[bb,toN]at c2
   refine gk_region env false [] [0,1,4,5] ?_
   refine gk_round (i+1) ?_
   refine ⟨by omega,he.trans ?_⟩
   rw[few34F,if_pos (by omega),if_pos c2]
 ·try simp only[bb,toN]at c1
  have h34:few34F docs 0=true:=by rw[he,few34F,if_neg (by omega)]
  refine gk_region env false [.call (GC.lift (few33_ok l hl))] [1,4,36] ?_
  refine gk_if (fun c3=> ?_) (fun c3=> ?_)
  ·try simp only[bb,toN]at c3
   refine gk_region env false [] [1,4] ?_
   refine gk_ret env ?_
   rw[few34V,if_pos h34,if_pos c3];rfl
  ·try simp only[bb,toN]at c3
   have hfit:=few34_fit h34 (by omega)
   refine gk_region env false [.call (count34_ok docs hfit)] [4,6,7] ?_
   refine gk_region env false [] [4] ?_
   refine gk_ret env ?_
   rw[few34V,if_pos h34,if_neg (by rintro (h|h);omega;rw[c3.2]at h;cases h)]
   by_cases hz:(countsE docs).2.2=0
   ·simp[hz,tupG]
   ·simp[hz,tupG]
structure MemR (r:Rlm):Prop where
 cur:r.currencies.length≤9223372036854775807∧∀s,s∈r.currencies→s.size≤9223372036854775807
 cities:r.cities.length≤9223372036854775807∧∀c,c∈r.cities→FitC c
 groups:r.groups.length≤9223372036854775807
 firms:r.firms.length≤9223372036854775807∧∀c,c∈r.firms→c.name.size≤9223372036854775807
 orders:r.orders.length≤9223372036854775807∧∀o,o∈r.orders→o.name.size≤9223372036854775807∧o.choices.length≤9223372036854775807∧o.rules.length≤9223372036854775807
 usances:r.usances.length≤9223372036854775807
 rates:r.rates.length≤9223372036854775807∧∀x,x∈r.rates→In64 x.num∧In64 x.den
 halts:r.halts.length≤9223372036854775807
def cityFew (c:Cty):Prop:=((c.feasts.length:Int)≤70∧(c.shut.length:Int)≤210)∧(c.rest.length:Int)≤8
instance (c:Cty):Decidable (cityFew c):=by unfold cityFew;infer_instance
def ordFew (o:Od):Prop:=(o.choices.length:Int)≤40∧(o.rules.length:Int)≤40
instance (o:Od):Decidable (ordFew o):=by unfold ordFew;infer_instance
def cityFewF (l:List Cty) (i:Nat):Bool:=if i<l.length∧i<50 then if cityFew (l.getD i default)then cityFewF l (i+1)else false else true
termination_by l.length-i
def ordFewF (l:List Od) (i:Nat):Bool:=if i<l.length∧i<50 then if ordFew (l.getD i default)then ordFewF l (i+1)else false else true
termination_by l.length-i
abbrev lensFew (r:Rlm):Prop:=((((((((r.currencies.length:Int)<50∧(r.cities.length:Int)<50)∧(r.groups.length:Int)<50)∧(r.firms.length:Int)<210)∧(r.orders.length:Int)<50)∧(r.usances.length:Int)<110)∧(r.rates.length:Int)<110)∧(r.halts.length:Int)<50)
def few09V (r:Rlm):Bool:=if cityFewF r.cities 0=true then if ordFewF r.orders 0=true then decide (lensFew r)else false else false
theorem ordFewF_spec {l:List Od} :∀(k i:Nat),l.length-i=k→ordFewF l i=true→l.length≤50→∀j,i≤j→j<l.length→ordFew (l.getD j default):=by
 intro k
 induction k with
 |zero=>intro i h _ _ j h1 h2;omega
 |succ k ih=>
  intro i h hf hl j h1 h2
  rw[ordFewF,if_pos (by omega)]at hf
  split at hf
  ·rename_i hd
   by_cases e:j=i
   ·subst e;exact hd
   ·exact ih (i+1) (by omega) hf hl j (by omega) h2
  ·cases hf
theorem few09_fit {r:Rlm} (h:few09V r=true) (hm:MemR r):FitR r:=by
 unfold few09V at h
 split at h
 ·split at h
  ·rename_i h1 h2
   have hl:lensFew r:=of_decide_eq_true h
   unfold lensFew at hl
   refine ⟨by omega,hm.cur.2,by omega,hm.cities.2,by omega,by omega,hm.firms.2,by omega,fun o ho=> ?_,by omega,by omega,hm.rates.2,by omega⟩
   obtain ⟨j,h3,h4⟩:=mem_getD ho
   have:=ordFewF_spec _ 0 rfl h2 (by omega) j (Nat.zero_le _) h3
   rw[h4]at this
   unfold ordFew at this
   exact ⟨(hm.orders.2 o ho).1,by omega,by omega⟩
  ·cases h
 ·cases h
theorem few09_ok (r:Rlm) (hm:MemR r):GC Tryz.prog 31 [rlG r] (bG (few09V r)):=by
 have m1:=hm.cities
 have m2:=hm.orders
 have m3:=hm.cur.1
 have m4:=hm.groups
 have m5:=hm.firms.1
 have m6:=hm.usances
 have m7:=hm.rates.1
 have m8:=hm.halts
 refine gc_of_gk Tryz.func31 ?_
 refine gk_region env false [] [1,2] ?_
 refine gk_box 0 ?_
 refine gk_region env false [] [1,2,3] ?_
 refine gk_loop (α:=Nat) (fun i=>i≤r.cities.length∧cityFewF r.cities 0=cityFewF r.cities i) (fun i=>[(3,iG i)]) (fun _=>[]) (fun i=>r.cities.length-i) 0 ⟨by omega,rfl⟩ ?_ (hp:=by simp[AllP];rfl)
 rintro i ⟨hi,he⟩
 refine gk_region env false [] [1,2,3,13] ?_
 refine gk_if (fun c1=> ?_) (fun c1=> ?_)
 ·try simp only[bb,toN]at c1
  refine gk_region env false [] [1,2,3,43] ?_
  refine gk_if (fun c2=> ?_) (fun c2=> ?_)
  ·try simp only[bb,toN]at c2
   refine gk_region env false [] [1,2,3] ?_
   refine gk_ret env ?_
   have e:cityFewF r.cities 0=false:=by rw[he,cityFewF,if_pos (by omega),if_neg (by unfold cityFew;omega)]
   rw[few09V,if_neg (by rw[e];simp)];rfl
  ·try simp only[bb,toN]at c2
   refine gk_region env false [] [1,2,3] ?_
   refine gk_round (i+1) ?_ (hp:=by simp[AllP];rfl)
   refine ⟨by omega,he.trans ?_⟩
   rw[cityFewF,if_pos (by omega),if_pos (by unfold cityFew;omega)]
 ·try simp only[bb,toN]at c1
  have hc0:cityFewF r.cities 0=true:=by rw[he,cityFewF,if_neg (by omega)]
  refine gk_region env false [] [1,2,4] ?_
  refine gk_loop (α:=Nat) (fun i=>i≤r.orders.length∧ordFewF r.orders 0=ordFewF r.orders i) (fun i=>[(4,iG i)]) (fun _=>[]) (fun i=>r.orders.length-i) 0 ⟨by omega,rfl⟩ ?_ (hp:=by simp[AllP];rfl)
  rintro i ⟨hi,he⟩
  refine gk_region env false [] [1,2,4,52] ?_
  refine gk_if (fun c3=> ?_) (fun c3=> ?_)
  ·try simp only[bb,toN]at c3
   refine gk_region env false [] [1,2,4,72] ?_
   refine gk_if (fun c4=> ?_) (fun c4=> ?_)
   ·try simp only[bb,toN]at c4
    refine gk_region env false [] [1,2,4] ?_
    refine gk_ret env ?_
    have e:ordFewF r.orders 0=false:=by rw[he,ordFewF,if_pos (by omega),if_neg (by unfold ordFew;omega)]
    rw[few09V,if_pos hc0,if_neg (by rw[e];simp)];rfl
   ·try simp only[bb,toN]at c4
    refine gk_region env false [] [1,2,4] ?_
    refine gk_round (i+1) ?_ (hp:=by simp[AllP];rfl)
    refine ⟨by omega,he.trans ?_⟩
    rw[ordFewF,if_pos (by omega),if_pos (by unfold ordFew;omega)]
  ·try simp only[bb,toN]at c3
   refine gk_region env false [] [2] ?_
   refine gk_ret env ?_
   have e:ordFewF r.orders 0=true:=by rw[he,ordFewF,if_neg (by omega)]
   rw[few09V,if_pos hc0,if_pos e];simp only[tupG,lensFew,Bool.decide_and,Bool.cond_false_right,Bool.and_assoc]
def few37F (l:List Trn) (i:Nat):Bool:=if i<l.length∧i<12 then if few34V (l.getD i default).terms (l.getD i default).docs=true∧few34V [] (l.getD i default).docs=true then few37F l (i+1)else false else true
termination_by l.length-i
def few37V (r:Rlm) (c:Crd) (l:List Trn):Bool:=
 if (((few09V r=false∨few33V c.terms=false)∨(30:Int)<c.terms.length)∨((12:Int)<l.length∧(l.length:Int)≤60))∨(70:Int)<l.length then false
 else if few37F l 0=true then (if (c.terms.length:Int)≤8 then true else !rprintOk c.terms)else false
theorem few37F_spec {l:List Trn} :∀(k i:Nat),l.length-i=k→few37F l i=true→l.length≤12→∀j,i≤j→j<l.length→FitT (l.getD j default)∧(l.getD j default).terms.length≤8:=by
 intro k
 induction k with
 |zero=>intro i h _ _ j h1 h2;omega
 |succ k ih=>
  intro i h hf hl j h1 h2
  rw[few37F,if_pos (by omega)]at hf
  split at hf
  ·rename_i hd
   by_cases e:j=i
   ·subst e
    obtain ⟨a1,a2,a3,a4⟩:=few34_spec hd.1
    exact ⟨⟨⟨by omega,a1.2⟩,a3⟩,a1.1⟩
   ·exact ih (i+1) (by omega) hf hl j (by omega) h2
  ·cases hf
structure Few37 (r:Rlm) (c:Crd) (l:List Trn):Prop where
 fr:FitR r
 fc:FitCr c
 fn:l.length≤12∨60<l.length∧l.length≤70
 ft:l.length≤60→∀t,t∈l→FitT t
 few:c.terms.length≤8∨rprintOk c.terms=false
theorem few37_spec {r:Rlm} {c:Crd} {l:List Trn} (h:few37V r c l=true) (hm:MemR r):Few37 r c l:=by
 unfold few37V at h
 split at h
 ·cases h
 ·rename_i h1
  split at h
  ·rename_i h2
   have e1:few09V r=true:=by
    cases e:few09V r with
    |true=>rfl
    |false=>exact absurd (.inl (.inl (.inl (.inl e)))) h1
   have e2:few33V c.terms=true:=by
    cases e:few33V c.terms with
    |true=>rfl
    |false=>exact absurd (.inl (.inl (.inl (.inr e)))) h1
   refine ⟨few09_fit e1 hm,⟨by omega,(few33V_spec e2).2⟩,by omega,fun hl t ht=> ?_,?_⟩
   ·obtain ⟨j,h3,h4⟩:=mem_getD ht
    have:=(few37F_spec _ 0 rfl h2 (by omega) j (Nat.zero_le _) h3).1
    rw[h4]at this
    exact this
   ·split at h
    ·left;omega
    ·right;simpa using h
  ·cases h
structure MemC (c:Crd) (l:List Trn):Prop where
 terms:c.terms.length≤9223372036854775807
 len:l.length≤9223372036854775807
 each:∀t,t∈l→t.terms.length≤9223372036854775807∧t.docs.length≤9223372036854775807
theorem few37_ok (r:Rlm) (hm:MemR r) (c:Crd) (l:List Trn) (hc:MemC c l):GC Tryz.prog 9 [rlG r,crdG c,rowTn l] (bG (few37V r c l)):=by
 have m1:=hc.terms
 have m2:=hc.len
 have m3:=fun i (h:i<l.length)=>hc.each _ (getD_mem h)
 refine gc_of_gk Tryz.func9 ?_
 refine gk_region env false [] [2,3,4,6] ?_
 refine gk_box 0 ?_
 refine gk_box 1 ?_
 refine gk_region env false [.call (few09_ok r hm),.call (GC.lift (few33_ok c.terms m1))] [2,4,6,37] ?_
 refine gk_if (fun c1=> ?_) (fun c1=> ?_)
 ·try simp only[bb,toN]at c1
  refine gk_region env false [] [2,4,6] ?_
  refine gk_ret env ?_
  rw[few37V,if_pos c1];rfl
 ·try simp only[bb,toN]at c1
  refine gk_region env false [] [2,4,6,7] ?_
  refine gk_loop (α:=Nat) (fun i=>i≤l.length∧few37F l 0=few37F l i) (fun i=>[(7,iG i)]) (fun _=>[]) (fun i=>l.length-i) 0 ⟨by omega,rfl⟩ ?_ (hp:=by simp[AllP];rfl)
  rintro i ⟨hi,he⟩
  refine gk_region env false [] [2,4,6,7,45] ?_
  refine gk_if (fun c2=> ?_) (fun c2=> ?_)
  ·try simp only[bb,toN]at c2
   have m4:=m3 i (by omega)
   refine gk_region env false [.call (few34_ok (l.getD i default).terms m4.1 (l.getD i default).docs m4.2),.call (few34_ok [] (by simp) (l.getD i default).docs m4.2)] [2,4,6,7,68] ?_ (hp:=(by simp only[AllP,bb,toN];repeat' first|exact trivial|exact EntL.refl _|exact ⟨Ent.nil,Ent.refl _,trivial⟩|exact rfl|omega|apply And.intro|intro _))
   refine gk_if (fun c3=> ?_) (fun c3=> ?_)
   ·try simp only[bb,toN]at c3
    refine gk_region env false [] [2,4,6,7] ?_
    refine gk_ret env ?_
    have e:few37F l 0=false:=by rw[he,few37F,if_pos (by omega),if_neg (by rintro ⟨h1,h2⟩;rw[h1,h2]at c3;simp at c3)]
    rw[few37V,if_neg (by rw[c1.1.1.1.1,c1.1.1.1.2];simp;omega),if_neg (by rw[e];simp)];rfl
   ·try simp only[bb,toN]at c3
    refine gk_region env false [] [2,4,6,7] ?_
    refine gk_round (i+1) ?_ (hp:=by simp[AllP];rfl)
    refine ⟨by omega,he.trans ?_⟩
    rw[few37F,if_pos (by omega),if_pos c3]
  ·try simp only[bb,toN]at c2
   have h37:few37F l 0=true:=by rw[he,few37F,if_neg (by omega)]
   have hb:few33V c.terms=true:=by cases e:few33V c.terms with
    |true=>rfl
    |false=>rw[e]at c1;simp at c1
   refine gk_region env false [.call (rwritten_ok c.terms (by omega) (few33V_spec hb).2)] [6] ?_
   refine gk_ret env ?_
   rw[few37V,if_neg (by rw[c1.1.1.1.1,c1.1.1.1.2];simp;omega),if_pos h37]
   by_cases h8:(c.terms.length:Int)≤8
   ·simp[h8,tupG]
   ·simp[h8,tupG]
end Go.Gh
namespace Go.Gh
open Go Go.Proofs
set_option maxRecDepth 1000000
set_option maxHeartbeats 2000000
set_option linter.unusedSimpArgs false
set_option linter.unusedVariables false
set_option linter.unnecessarySimpa false
set_option linter.unusedSectionVars false
variable [PowTab] [ItoaU]
open Go.RowKit
structure RAm where
 terms:List Dm
 sum:Int
 state:Int
instance :Inhabited RAm:=⟨⟨[],0,0⟩⟩
def raC (a:RAm):List D:=[.row default dmC a.terms,.sc (.int .i64 a.sum),.sc (.int .i64 a.state)]
structure RSt where
 terms:List Dm
 drawn:Int
 paid:Int
 left:Int
 moved:Int
 amended:List Int
 second:Int
 list:List RAm
 conf:Bool
 rest:Int
 day:Int
instance :Inhabited RSt:=⟨⟨[],0,0,0,0,[],0,[],false,0,0⟩⟩
abbrev rsG (x:RSt):G:= .agg [rowD x.terms,iG x.drawn,iG x.paid,iG x.left,iG x.moved,rowI x.amended,iG x.second,.d (.row default raC x.list),bG x.conf,iG x.rest,iG x.day]
def absA (a:RAm):Amd:=⟨a.terms,a.sum,decide (a.state=2)⟩
def absS (n:Int) (c:Crd) (x:RSt):Sta:=⟨n,c,x.terms,x.drawn,x.paid,x.left,x.moved,x.amended,x.second,x.list.map absA,x.conf,x.rest,x.day⟩
def new37 (c:Crd):RSt:=⟨c.terms,0,0,c.sum,0,[],-1,[],false,c.rev,0⟩
def confR (c:Crd) (x:RSt) (t:Trn):RSt×Int:=if t.by_=c.conf then if x.conf=true then (x,5)else ({x with conf:=true},0)else (x,18)
def payR (c:Crd) (x:RSt) (t:Trn):RSt×Int:=if t.by_=c.iss∨(x.conf=true∧t.by_=c.conf)then if wiV t.sum 1 (x.drawn-x.paid)=true then (if (x.left+x.moved=0∧x.paid+t.sum=x.drawn)∧0<x.rest then {x with paid:=x.paid+t.sum,rest:=x.rest-1,left:=c.sum} else {x with paid:=x.paid+t.sum},0)else (x,3)else (x,18)
def transR (n:Int) (c:Crd) (x:RSt) (t:Trn):RSt×Int:=if t.by_=c.ben∧c.trans=true then if x.second= -1 then if wiV t.to_ 0 (n-1)=true∧t.to_≠c.ben then if c.exp<t.day then (x,16)else if wiV t.sum 1 x.left=true then ({x with second:=t.to_,moved:=t.sum,left:=x.left-t.sum},0)else (x,3)else (x,1)else (x,5)else (x,18)
def fitsR (c:Crd) (a b:Int):Bool:=bif decide (a=b)then true else bif c.part then decide (a≤b)else false
structure FitX (k:Nat) (x:RSt):Prop where
 few:k≤1000
 left: -((k+1)*8796093022208)≤x.left∧x.left≤(k+1)*8796093022208
 moved: -((k+1)*8796093022208)≤x.moved∧x.moved≤(k+1)*8796093022208
 drawn: -((k+1)*8796093022208)≤x.drawn∧x.drawn≤(k+1)*8796093022208
 paid: -((k+1)*8796093022208)≤x.paid∧x.paid≤(k+1)*8796093022208
 list:x.list.length≤8
 amd:∀a,a∈x.list→(0≤a.sum∧a.sum≤1099511627776)∧a.terms.length≤30∧∀d,d∈a.terms→FewD d
 terms:x.terms.length≤30∧∀d,d∈x.terms→FewD d
 amended:x.amended.length≤k
 rest: -10≤x.rest∧x.rest≤10
theorem FitX.of {n:Int} {c:Crd} {k:Nat} {x:RSt} (h:Fits k (absS n c x)):FitX k x:=
 ⟨h.few,h.left,h.moved,h.drawn,h.paid,by have:=h.amds;simpa [absS]using this,fun a ha=>h.amd (absA a) (List.mem_map.2 ⟨a,ha,rfl⟩),h.terms,h.amended,h.rest⟩
theorem in37_ok (n lo hi:Int):GC Tryz.prog 39 [iG n,iG lo,iG hi] (bG (wiV n lo hi)):=by
 refine gc_of_gk Tryz.func39 ?_
 refine gk_region env false [] [0,1,2,6] ?_
 refine gk_region env false [] [6] ?_
 refine gk_ret env ?_
 simp[tupG,wiV,Bool.cond_eq_ite]
theorem new37_ok (c:Crd):GC Tryz.prog 55 [crdG c] (rsG (new37 c)):=by
 refine gc_of_gk Tryz.func55 ?_
 refine gk_region env false [] [1,2] ?_
 refine gk_box 0 ?_
 refine gk_region env false [] [2] ?_
 refine gk_retE env ?_
 exact Ent.agg ⟨Ent.refl _,Ent.refl _,Ent.refl _,Ent.refl _,Ent.refl _,Ent.nil,Ent.refl _,Ent.nil,Ent.refl _,Ent.refl _,Ent.refl _,trivial⟩
theorem fits37_ok (c:Crd) (a b:Int):GC Tryz.prog 127 [crdG c,iG a,iG b] (bG (fitsR c a b)):=by
 refine gc_of_gk Tryz.func127 ?_
 refine gk_region env false [] [1,2,3,6] ?_
 refine gk_box 0 ?_
 refine gk_region env false [] [6] ?_
 refine gk_ret env ?_
 simp[tupG,fitsR]
theorem confirm37_ok (c:Crd) (x:RSt) (t:Trn):GC Tryz.prog 97 [crdG c,rsG x,trnG t] (.tup [rsG (confR c x t).1,iG (confR c x t).2]):=by
 refine gc_of_gk Tryz.func97 ?_
 refine gk_region env false [] [3,4,5,6,7] ?_
 refine gk_box 0 ?_
 refine gk_box 2 ?_
 refine gk_region env false [] [4,6,7,12] ?_
 refine gk_ifn (fun c1=> ?_) (fun c1=> ?_)
 ·try simp only[toN]at c1
  refine gk_region env false [] [4,6,7] ?_
  refine gk_ret env ?_
  rw[confR,if_neg c1];rfl
 ·try simp only[toN]at c1
  refine gk_region env false [] [4,6,7,15] ?_
  refine gk_if (fun c2=> ?_) (fun c2=> ?_)
  ·try simp only[bb,toN]at c2
   refine gk_region env false [] [4,6,7] ?_
   refine gk_ret env ?_
   rw[confR,if_pos c1,if_pos c2];rfl
  ·try simp only[bb,toN]at c2
   refine gk_region env false [] [4,6,7] ?_
   refine gk_region env false [] [6,7] ?_
   refine gk_ret env ?_
   rw[confR,if_pos c1,if_neg (by rw[c2];simp)];rfl
theorem pay37_ok (c:Crd) (k:Nat) (x:RSt) (hx:FitX k x) (t:Trn):GC Tryz.prog 98 [crdG c,rsG x,trnG t] (.tup [rsG (payR c x t).1,iG (payR c x t).2]):=by
 refine gc_of_gk Tryz.func98 ?_
 refine gk_region env false [] [3,4,5,6,7] ?_
 refine gk_box 0 ?_
 refine gk_box 2 ?_
 have hx1:=hx.left
 have hx2:=hx.moved
 have hx3:=hx.drawn
 have hx4:=hx.paid
 have hx5:=hx.rest
 have hxk:=hx.few
 refine gk_region env false [] [3,4,5,6,7,8] ?_
 refine gk_region env false [] [3,4,5,6,7,26] ?_
 refine gk_if (fun c1=> ?_) (fun c1=> ?_)
 ·try simp only[bb,toN]at c1
  refine gk_region env false [] [3,4,5,6,7] ?_
  refine gk_ret env ?_
  rw[payR,if_neg (by rintro (h|⟨h1,h2⟩);exact c1.1 h;rcases c1.2 with h|h;rw[h]at h1;cases h1;exact h h2)];rfl
 ·try simp only[bb,toN]at c1
  refine gk_region env false [.call (in37_ok t.sum 1 (x.drawn-x.paid))] [3,4,5,6,7,38] ?_
  refine gk_if (fun c2=> ?_) (fun c2=> ?_)
  ·try simp only[bb,toN]at c2
   refine gk_region env false [] [3,4,5,6,7] ?_
   refine gk_ret env ?_
   rw[payR,if_pos c1,if_neg (by rw[c2];simp)];rfl
  ·try simp only[bb,toN]at c2
   have hw:=wiV_t.1 c2
   refine gk_region env false [] [3,4,6,7] ?_
   refine gk_region env false [] [3,4,6,7,69] ?_
   refine gk_if (fun c3=> ?_) (fun c3=> ?_)
   ·try simp only[bb,toN]at c3
    refine gk_region env false [] [3,4,6,7] ?_
    refine gk_region env false [] [4,6,7] ?_
    refine gk_region env false [] [6,7] ?_
    refine gk_ret env ?_
    rw[payR,if_pos c1,if_pos c2,if_pos c3];rfl
   ·try simp only[bb,toN]at c3
    refine gk_region env false [] [6,7] ?_
    refine gk_ret env ?_
    rw[payR,if_pos c1,if_pos c2,if_neg (by omega)];rfl
theorem transfer37_ok (r:Rlm) (hr:FitR r) (c:Crd) (k:Nat) (x:RSt) (hx:FitX k x) (t:Trn):GC Tryz.prog 96 [rlG r,crdG c,rsG x,trnG t] (.tup [rsG (transR r.firms.length c x t).1,iG (transR r.firms.length c x t).2]):=by
 refine gc_of_gk Tryz.func96 ?_
 refine gk_region env false [] [4,5,6,7,8,9] ?_
 refine gk_box 0 ?_
 refine gk_box 1 ?_
 refine gk_box 3 ?_
 have hx1:=hx.left
 have hx2:=hx.moved
 have hx3:=hx.drawn
 have hx4:=hx.paid
 have hx5:=hx.rest
 have hxk:=hx.few
 have hrf:=hr.firms
 refine gk_region env false [] [4,5,6,7,8,9,19] ?_
 refine gk_if (fun c1=> ?_) (fun c1=> ?_)
 ·try simp only[bb,toN]at c1
  refine gk_region env false [] [4,5,6,7,8,9] ?_
  refine gk_ret env ?_
  rw[transR,if_neg (by rcases c1 with c|c<;>simp[c])];rfl
 ·try simp only[bb,toN]at c1
  refine gk_region env false [] [4,5,6,7,8,9,24] ?_
  refine gk_ifn (fun c2=> ?_) (fun c2=> ?_)
  ·try simp only[toN]at c2
   refine gk_region env false [] [4,5,6,7,8,9] ?_
   refine gk_ret env ?_
   rw[transR,if_pos c1,if_neg c2];rfl
  ·try simp only[toN]at c2
   refine gk_region env false [.call (in37_ok t.to_ 0 ((r.firms.length:Int)-1))] [5,6,7,8,9,40] ?_
   refine gk_if (fun c3=> ?_) (fun c3=> ?_)
   ·try simp only[bb,toN]at c3
    refine gk_region env false [] [5,6,7,8,9] ?_
    refine gk_ret env ?_
    rw[transR,if_pos c1,if_pos c2,if_neg (by rcases c3 with c|c<;>simp[c])];rfl
   ·try simp only[bb,toN]at c3
    refine gk_region env false [] [6,7,8,9,46] ?_
    refine gk_ifd (fun c4=> ?_) (fun c4=> ?_)
    ·try simp only[toN]at c4
     refine gk_region env false [] [6,7,8,9] ?_
     refine gk_ret env ?_
     rw[transR,if_pos c1,if_pos c2,if_pos c3,if_pos c4];rfl
    ·try simp only[toN]at c4
     refine gk_region env false [.call (in37_ok t.sum 1 x.left)] [6,7,8,9,54] ?_
     refine gk_if (fun c5=> ?_) (fun c5=> ?_)
     ·try simp only[bb,toN]at c5
      refine gk_region env false [] [6,7,8,9] ?_
      refine gk_ret env ?_
      rw[transR,if_pos c1,if_pos c2,if_pos c3,if_neg c4,if_neg (by rw[c5];simp)];rfl
     ·try simp only[bb,toN]at c5
      refine gk_region env false [] [6,7,8,9] ?_
      refine gk_region env false [] [6,7,8,9] ?_
      have hw:=wiV_t.1 c5
      refine gk_region env false [] [6,8,9] ?_
      refine gk_region env false [] [8,9] ?_
      refine gk_ret env ?_
      rw[transR,if_pos c1,if_pos c2,if_pos c3,if_neg c4,if_pos c5];rfl
def amendR (c:Crd) (x:RSt) (t:Trn):RSt×Int:=if t.by_=c.iss then if rprintOk t.terms=true then if wiV t.sum 0 1099511627776=true then if 8≤x.list.length then (x,6)else ({x with list:=x.list++ [⟨t.terms,t.sum,2⟩]},0)else (x,3)else (x,2)else (x,18)
def setR (l:List RAm) (no:Nat) (s:Int):List RAm:=l.set no {l.getD no default with state:=s}
def takeR (x:RSt) (no:Nat) (acc:Bool):RSt:=
 if acc=true then {x with list:=setR (setR x.list no 0) no 1,terms:=(x.list.getD no default).terms,left:=x.left+(x.list.getD no default).sum,amended:=x.amended++ [(no:Int)]} else {x with list:=setR x.list no 0}
theorem setR_len (l:List RAm) (no:Nat) (s:Int):(setR l no s).length=l.length:=by simp[setR]
theorem setR_getD {l:List RAm} {no:Nat} {s:Int} (h:no<l.length):(setR l no s).getD no default= {l.getD no default with state:=s} :=by
 unfold setR
 rw[List.getD_eq_getElem?_getD,List.getElem?_set_self h];rfl
theorem putD_ra {l:List RAm} {i:Nat} {s:Int} (hi:i<l.length):putD (rowL raC l) i 2 [.sc (.int .i64 s)]=rowL raC (setR l i s):=by
 have e:(rowL raC l).getD i []=raC (l.getD i default):=by
  simp[rowL,List.getD_eq_getElem?_getD,List.getElem?_eq_getElem hi]
 rw[putD,e,setR]
 simp only[rowL,List.map_set]
 rfl
theorem amend37_ok (c:Crd) (k:Nat) (x:RSt) (hx:FitX k x) (t:Trn) (ht:t.terms.length≤30) (htf:∀d,d∈t.terms→FewD d):GC Tryz.prog 94 [crdG c,rsG x,trnG t] (.tup [rsG (amendR c x t).1,iG (amendR c x t).2]):=by
 refine gc_of_gk Tryz.func94 ?_
 refine gk_region env false [] [3,4,5,6,7] ?_
 refine gk_box 0 ?_
 refine gk_box 2 ?_
 have hx6:=hx.list
 refine gk_region env false [] [4,5,6,7,12] ?_
 refine gk_ifn (fun c1=> ?_) (fun c1=> ?_)
 ·try simp only[toN]at c1
  refine gk_region env false [] [4,5,6,7] ?_
  refine gk_ret env ?_
  rw[amendR,if_neg c1];rfl
 ·try simp only[toN]at c1
  refine gk_region env false [.call (rwritten_ok t.terms (by omega) htf)] [4,5,6,7,17] ?_
  refine gk_if (fun c2=> ?_) (fun c2=> ?_)
  ·try simp only[bb,toN]at c2
   refine gk_region env false [] [4,5,6,7] ?_
   refine gk_ret env ?_
   rw[amendR,if_pos c1,if_neg (by rw[c2];simp)];rfl
  ·try simp only[bb,toN]at c2
   refine gk_region env false [.call (in37_ok t.sum 0 1099511627776)] [4,5,6,7,22] ?_
   refine gk_if (fun c3=> ?_) (fun c3=> ?_)
   ·try simp only[bb,toN]at c3
    refine gk_region env false [] [4,5,6,7] ?_
    refine gk_ret env ?_
    rw[amendR,if_pos c1,if_pos c2,if_neg (by rw[c3];simp)];rfl
   ·try simp only[bb,toN]at c3
    refine gk_region env false [] [4,5,6,7,27] ?_
    refine gk_ifd (fun c4=> ?_) (fun c4=> ?_)
    ·try simp only[toN]at c4
     refine gk_region env false [] [4,5,6,7] ?_
     refine gk_ret env ?_
     rw[amendR,if_pos c1,if_pos c2,if_pos c3,if_pos (by omega)];rfl
    ·try simp only[toN]at c4
     refine gk_region env false [.el default raC [],.el default raC x.list,.el default raC [⟨t.terms,t.sum,2⟩],.el default raC (x.list++ [⟨t.terms,t.sum,2⟩])] [4,6,7] ?_ (hp:=(by simp only[AllP,Int.toNat_natCast];repeat' first|exact trivial|exact EntL.refl _|exact BEntL.refl _|exact rfl|omega|apply And.intro|intro _|(simp[rowL];done)|(simp only[List.length_append,List.length_cons,List.length_nil];omega)|(simp[*];done)))
     refine gk_region env false [] [6,7] ?_
     refine gk_ret env ?_
     rw[amendR,if_pos c1,if_pos c2,if_pos c3,if_neg (by omega)];rfl
theorem take37_ok (k:Nat) (x:RSt) (hx:FitX k x) (no:Nat) (hn:no<x.list.length) (acc:Bool):GC Tryz.prog 129 [rsG x,iG no,bG acc] (rsG (takeR x no acc)):=by
 have hx6:=hx.list
 have hx1:=hx.left
 have hxk:=hx.few
 have hxa:=(hx.amd _ (getD_mem hn)).1
 have hl0:=setR_len x.list no 0
 have hl1:=setR_len (setR x.list no 0) no 1
 have hx7:=hx.amended
 have hs0:(setR (setR x.list no 0) no 1).getD (0+no) default= {x.list.getD no default with state:=1} :=by rw[Nat.zero_add,setR_getD (by omega),setR_getD hn]
 have hs1:((setR (setR x.list no 0) no 1).getD (0+no) default).sum=(x.list.getD no default).sum:=by rw[hs0]
 have hs2:((setR (setR x.list no 0) no 1).getD (0+no) default).terms=(x.list.getD no default).terms:=by rw[hs0]
 refine gc_of_gk Tryz.func129 ?_
 refine gk_region env false [] [1,2,3,6] ?_
 refine gk_region env false [.el default raC [],.el default raC x.list] [1,2,3,6,7] ?_ (hp:=(by simp only[AllP,Int.toNat_natCast];repeat' first|exact trivial|exact EntL.refl _|exact BEntL.refl _|exact rfl|omega|apply And.intro|intro _|(simp[rowL];done)|(simp only[List.length_append,List.length_cons,List.length_nil];omega)|(simp[*];done)))
 refine gk_region env false [.el default raC (setR x.list no 0)] [1,2,3,6,7] ?_ (hp:=(by simp only[AllP,bb,toN];repeat' first|exact trivial|omega|decide|exact rfl|(rw[Nat.zero_add];exact (putD_ra (by omega)).symm)|(simp only[List.length_nil];omega)|apply And.intro))
 refine gk_region env false [] [1,3,6,7,16] ?_
 refine gk_if (fun c1=> ?_) (fun c1=> ?_)
 ·try simp only[bb,toN]at c1
  refine gk_region env false [.el default raC (setR (setR x.list no 0) no 1)] [1,3,6,7] ?_ (hp:=(by simp only[AllP,bb,toN];repeat' first|exact trivial|omega|decide|exact rfl|(rw[Nat.zero_add];exact (putD_ra (by omega)).symm)|(simp only[List.length_nil];omega)|apply And.intro))
  refine gk_region env false [] [1,3,6,7] ?_
  refine gk_region env false [] [1,3,6,7] ?_ (hp:=(by simp only[AllP,bb,toN,hs1];repeat' first|exact trivial|exact EntL.refl _|exact BEntL.refl _|exact rfl|omega|apply And.intro|intro _|(simp;done)|(simp;omega)))
  refine gk_region env false [.el default inC [],.el default inC x.amended,.el default inC [(no:Int)],.el default inC (x.amended++ [(no:Int)])] [3,6,7] ?_ (hp:=(by simp only[AllP,Int.toNat_natCast];repeat' first|exact trivial|exact EntL.refl _|exact BEntL.refl _|exact rfl|omega|apply And.intro|intro _|(simp[rowL];done)|(simp only[List.length_append,List.length_cons,List.length_nil];omega)|(simp[*];done)))
  refine gk_region env false [] [3,6] ?_ (hp:=(by simp only[AllP,bb,toN,hs1];repeat' first|exact trivial|exact EntL.refl _|exact BEntL.refl _|exact rfl|omega|apply And.intro|intro _|(simp;done)|(simp;omega)))
  refine gk_region env false [] [6] ?_ (hp:=(by simp only[AllP,bb,toN,hs1];repeat' first|exact trivial|exact EntL.refl _|exact BEntL.refl _|exact rfl|omega|apply And.intro|intro _|(simp;done)|(simp;omega)))
  refine gk_ret env ?_ (hp:=(by simp only[AllP];repeat' first|exact trivial|exact EntL.refl _|exact BEntL.refl _|exact rfl|omega|apply And.intro|intro _|(simp;done)|(simp;omega)))
  simp only[Int.toNat_natCast,hs1,hs2]
  rw[takeR,if_pos c1];rfl
 ·try simp only[bb,toN]at c1
  refine gk_region env false [] [3,6] ?_ (hp:=(by simp only[AllP,bb,toN,hs1];repeat' first|exact trivial|exact EntL.refl _|exact BEntL.refl _|exact rfl|omega|apply And.intro|intro _|(simp;done)|(simp;omega)))
  refine gk_region env false [] [6] ?_ (hp:=(by simp only[AllP,bb,toN,hs1];repeat' first|exact trivial|exact EntL.refl _|exact BEntL.refl _|exact rfl|omega|apply And.intro|intro _|(simp;done)|(simp;omega)))
  refine gk_ret env ?_ (hp:=(by simp only[AllP];repeat' first|exact trivial|exact EntL.refl _|exact BEntL.refl _|exact rfl|omega|apply And.intro|intro _|(simp;done)|(simp;omega)))
  rw[takeR,if_neg (by rw[c1];simp)];rfl
def ansR (c:Crd) (x:RSt) (t:Trn):RSt×Int:=if t.by_=c.ben then if 0≤t.no∧t.no<x.list.length then if (x.list.getD t.no.toNat default).state=2 then if t.kind=2∧c.exp<t.day then (x,16)else (takeR x t.no.toNat (decide (t.kind=2)),0)else (x,4)else (x,4)else (x,18)
theorem answer37_ok (c:Crd) (k:Nat) (x:RSt) (hx:FitX k x) (t:Trn):GC Tryz.prog 95 [crdG c,rsG x,trnG t] (.tup [rsG (ansR c x t).1,iG (ansR c x t).2]):=by
 refine gc_of_gk Tryz.func95 ?_
 refine gk_region env false [] [3,4,5,6,7] ?_
 refine gk_box 0 ?_
 refine gk_box 2 ?_
 have hx6:=hx.list
 refine gk_region env false [] [3,4,5,6,7,12] ?_
 refine gk_ifn (fun c1=> ?_) (fun c1=> ?_)
 ·try simp only[toN]at c1
  refine gk_region env false [] [3,4,5,6,7] ?_
  refine gk_ret env ?_
  rw[ansR,if_neg c1];rfl
 ·try simp only[toN]at c1
  refine gk_region env false [] [3,4,5,6,7,24] ?_
  refine gk_if (fun c2=> ?_) (fun c2=> ?_)
  ·try simp only[bb,toN]at c2
   refine gk_region env false [] [3,4,5,6,7] ?_
   refine gk_ret env ?_
   rw[ansR,if_pos (by assumption),if_neg (by omega)];rfl
  ·try simp only[bb,toN]at c2
   refine gk_region env false [] [3,4,5,6,7,33] ?_
   refine gk_ifn (fun c3=> ?_) (fun c3=> ?_)
   ·try simp only[toN]at c3
    refine gk_region env false [] [3,4,5,6,7] ?_
    refine gk_ret env ?_
    rw[ansR,if_pos (by assumption),if_pos (by omega),if_neg c3];rfl
   ·try simp only[toN]at c3
    refine gk_region env false [] [4,5,6,7,44] ?_
    refine gk_if (fun c4=> ?_) (fun c4=> ?_)
    ·try simp only[bb,toN]at c4
     refine gk_region env false [] [4,5,6,7] ?_
     refine gk_ret env ?_
     rw[ansR,if_pos (by assumption),if_pos (by omega),if_pos c3,if_pos c4];rfl
    ·try simp only[bb,toN]at c4
     have hno:((t.no.toNat:Nat):Int)=t.no:=by omega
     have htk:=take37_ok k x hx t.no.toNat (by omega) (decide (t.kind=2))
     rw[hno]at htk
     refine gk_region env false [.call htk] [6,7] ?_
     refine gk_ret env ?_
     rw[ansR,if_pos (by assumption),if_pos (by omega),if_pos c3,if_neg (by omega)];rfl
end Go.Gh
namespace Go.Gh
open Go Go.Proofs
set_option maxRecDepth 1000000
set_option maxHeartbeats 2000000
set_option linter.unusedSimpArgs false
set_option linter.unusedVariables false
set_option linter.unnecessarySimpa false
set_option linter.unusedSectionVars false
variable [PowTab] [ItoaU]
open Go.RowKit
theorem can_fine (d:Dm):canV d=decide (Fine d):=by
 rw[Bool.eq_iff_iff,decide_eq_true_eq]
 obtain ⟨op,doc,field,other,second,text,lo,hi⟩:=d
 simp only[canV,knownV,Bool.and_eq_true,decide_eq_true_eq,Fine]
 by_cases h0:op=0
 ·subst h0
  simp[cleanV,namedV,dNeed,e0]
  grind
 by_cases h1:op=1
 ·subst h1
  simp[cleanV,namedV,dIs,e0,nameV]
  grind
 by_cases h3:op=3
 ·subst h3
  simp[cleanV,namedV,dSame,e0,nameV]
  grind
 by_cases h2:op=2
 ·subst h2
  simp[cleanV,namedV,dLim,e0,nameV]
  grind
 by_cases h4:op=4
 ·subst h4
  simp[cleanV,namedV,dLim,e0,nameV]
  grind
 ·constructor
  ·intro h;omega
  ·intro h;omega
theorem join_le2 {m:Nat} (sep:List UInt8):∀(xs:List (List UInt8)),(∀x,x∈xs→x.length≤m)→(Lib.join xs sep).length≤xs.length*(m+sep.length):=by
 intro xs
 induction xs with
 |nil=>intro _;simp[Lib.join]
 |cons x xs ih=>
  intro h
  have hx:=h x List.mem_cons_self
  have hr:=ih fun y hy=>h y (List.mem_cons_of_mem _ hy)
  cases xs with
  |nil=>simp[Lib.join,List.intercalate,List.intersperse];omega
  |cons y ys=>
   have e:Lib.join (x::y::ys) sep=x++sep++Lib.join (y::ys) sep:=by simp[Lib.join,List.intercalate,List.intersperse]
   rw[e,List.length_append,List.length_append,List.length_cons,Nat.add_mul]
   omega
theorem printF_p {l:List Dm} {i:Nat} {acc:List ByteArray} (h:i<l.length):printF l i acc=if canV (l.getD i default)=true∧l.length≤20 then printF l (i+1) (acc++ [wordsV (l.getD i default)])else none:=by rw[printF,if_pos h]
theorem rpF_p {l:List Dm} {i:Nat} {acc:List Tk} (h:i<l.length):rpF l i acc=if Fine (l.getD i default)then rpF l (i+1) (acc++toksD (l.getD i default))else none:=by rw[rpF,if_pos h]
theorem print_both {l:List Dm} (hl:l.length≤20) (hf:∀d,d∈l→FewD d):∀(k i:Nat) (acc:List ByteArray) (acc2:List Tk),l.length-i=k→i≤l.length→acc.length=i→(∀x,x∈acc→x.size≤940)→
 (printF l i acc=none∧(rpF l i acc2).isSome=false)∨∃r,printF l i acc=some r∧r.length=l.length∧(∀x,x∈r→x.size≤940)∧(rpF l i acc2).isSome=true:=by
 intro k
 induction k with
 |zero=>
  intro i acc acc2 hk hi hn ha
  exact .inr ⟨acc,by rw[printF,if_neg (by omega)],by omega,ha,by rw[rpF,if_neg (by omega)];rfl⟩
 |succ k ih=>
  intro i acc acc2 hk hi hn ha
  rw[printF_p (by omega),rpF_p (by omega)]
  by_cases hc:canV (l.getD i default)=true
  ·have hd:Fine (l.getD i default):=by rw[can_fine]at hc;exact of_decide_eq_true hc
   rw[if_pos ⟨hc,hl⟩,if_pos hd]
   refine ih (i+1) _ _ (by omega) (by omega) (by simp;omega) fun x hx=> ?_
   rcases List.mem_append.1 hx with hx|hx
   ·exact ha x hx
   ·rw[List.mem_singleton.1 hx]
    exact (hf _ (getD_mem (by omega))).words hc
  ·have hd:¬Fine (l.getD i default):=fun h=>hc (by rw[can_fine];exact decide_eq_true h)
   rw[if_neg (fun h=>hc h.1),if_neg hd]
   exact .inl ⟨rfl,rfl⟩
theorem printOk_eq {l:List Dm} (hf:∀d,d∈l→FewD d):rprintOk l=printOk l:=by
 unfold rprintOk printOk
 by_cases hl:l.length≤20
 ·rw[if_neg (by omega)]
  rcases print_both hl hf _ 0 [] [] rfl (Nat.zero_le _) rfl (fun x h=>by cases h)with ⟨h1,h2⟩|⟨r,h1,h2,h3,h4⟩
  ·rw[h1,h2]
  ·rw[h1,h4]
   have hj:=join_le2 (m:=940) (bs ⟨#[32]⟩) (r.map bs) fun x hx=>by
    obtain ⟨y,hy,rfl⟩:=List.mem_map.1 hx
    exact h3 y hy
   have hs:(joinS r ⟨#[32]⟩).size=(Lib.join (r.map bs) (bs ⟨#[32]⟩)).length:=by simp[joinS,ByteArray.size]
   have h5:(bs ⟨#[32]⟩).length=1:=rfl
   rw[h5,List.length_map,h2]at hj
   symm
   refine decide_eq_true ?_
   rw[hs]
   have:l.length*(940+1)≤20*941:=Nat.mul_le_mul_right _ hl
   omega
 ·rw[if_pos (by omega),printF_p (by omega),if_neg (fun h=>hl h.2)]
end Go.Gh
namespace Go.Gh
open Go Go.Proofs
set_option maxRecDepth 1000000
set_option maxHeartbeats 2000000
set_option linter.unusedSimpArgs false
set_option linter.unusedVariables false
set_option linter.unnecessarySimpa false
set_option linter.unusedSectionVars false
variable [PowTab] [ItoaU]
open Go.RowKit
theorem arg_wi {r:Rlm} {c:Crd} :argB r c=true↔((((((wiV c.app 0 ((r.firms.length:Int)-1)=true∧wiV c.iss 0 ((r.firms.length:Int)-1)=true)∧wiV c.ben 0 ((r.firms.length:Int)-1)=true)∧wiV c.conf (-1) ((r.firms.length:Int)-1)=true)∧c.conf≠c.iss)∧wiV c.cur 0 ((r.currencies.length:Int)-1)=true)∧wiV c.city 0 ((r.cities.length:Int)-1)=true):=by
 rw[arg_t]
 simp only[inB_iff,wiV_t]
 omega
theorem rng_wi {c:Crd} :rngB c=true↔((wiV c.sum 1 1099511627776=true∧wiV c.exp 0 100000=true)∧wiV c.rev 0 10=true):=by
 rw[rng_t]
 simp only[inB_iff,wiV_t]
 omega
theorem GC.check9 (r:Rlm) (hr:FitR r):GC Tryz.prog 45 [rlG r] (iG (realmE r)):=by
 rw[←realmR_eq];exact GC.lift (check9_ok r hr)
theorem check37_ok (r:Rlm) (hr:FitR r) (c:Crd) (hc:FitCr c):GC Tryz.prog 22 [rlG r,crdG c] (iG (crdE r c)):=by
 refine gc_of_gk Tryz.func22 ?_
 refine gk_region env false [] [2,3,4] ?_
 refine gk_box 0 ?_
 refine gk_box 1 ?_
 have h1:=hr.firms
 have h2:=hr.cur
 have h3:=hr.cities
 refine gk_region env false [.call (GC.check9 r hr)] [2,3,4,5] ?_
 refine gk_region env false [] [2,3,4,5,10] ?_
 refine gk_ifn (fun c1=> ?_) (fun c1=> ?_)
 ·try simp only[toN]at c1
  refine gk_region env false [] [2,3,4] ?_
  refine gk_ret env ?_
  rw[crdE,if_neg c1];rfl
 ·try simp only[toN]at c1
  refine gk_region env false [] [2,3,4,6] ?_
  refine gk_region env false [.call (in37_ok c.app 0 ((r.firms.length:Int)-1)),.call (in37_ok c.iss 0 ((r.firms.length:Int)-1)),.call (in37_ok c.ben 0 ((r.firms.length:Int)-1)),.call (in37_ok c.conf (-1) ((r.firms.length:Int)-1)),.call (in37_ok c.cur 0 ((r.currencies.length:Int)-1)),.call (in37_ok c.city 0 ((r.cities.length:Int)-1))] [3,4,68] ?_
  refine gk_if (fun c2=> ?_) (fun c2=> ?_)
  ·try simp only[bb,toN]at c2
   refine gk_region env false [] [3,4] ?_
   refine gk_ret env ?_
   rw[crdE,if_pos c1,if_neg (by rw[arg_wi];grind)];rfl
  ·try simp only[bb,toN]at c2
   refine gk_region env false [.call (in37_ok c.sum 1 1099511627776),.call (in37_ok c.exp 0 100000),.call (in37_ok c.rev 0 10)] [3,4,84] ?_
   refine gk_if (fun c3=> ?_) (fun c3=> ?_)
   ·try simp only[bb,toN]at c3
    refine gk_region env false [] [3,4] ?_
    refine gk_ret env ?_
    rw[crdE,if_pos c1,if_pos (arg_wi.2 c2),if_neg (by rw[rng_wi];grind)];rfl
   ·try simp only[bb,toN]at c3
    refine gk_region env false [.call (rwritten_ok c.terms (by have:=hc.terms.1;omega) hc.terms.2)] [4,88] ?_
    refine gk_if (fun c4=> ?_) (fun c4=> ?_)
    ·try simp only[bb,toN]at c4
     refine gk_region env false [] [4] ?_
     refine gk_ret env ?_
     rw[printOk_eq hc.terms.2]at c4
     rw[crdE,if_pos c1,if_pos (arg_wi.2 c2),if_pos (rng_wi.2 c3),if_neg (by rw[c4];simp)];rfl
    ·try simp only[bb,toN]at c4
     refine gk_region env false [] [4] ?_
     refine gk_ret env ?_
     rw[printOk_eq hc.terms.2]at c4
     rw[crdE,if_pos c1,if_pos (arg_wi.2 c2),if_pos (rng_wi.2 c3),if_pos c4];rfl
theorem follows37_ok (d f:Dm) (hf:f.text.size≤9223372036854775807):GC Tryz.prog 18 [dmG d,dmG f] (bG (followsB d f)):=by
 refine gc_of_gk Tryz.func18 ?_
 refine gk_region env false [] [2,3,4] ?_
 refine gk_box 0 ?_
 refine gk_box 1 ?_
 refine gk_region env false [.eq (eq_demand d f)] [2,3,4,10] ?_
 refine gk_if (fun c1=> ?_) (fun c1=> ?_)
 ·try simp only[bb,toN]at c1
  refine gk_region env false [] [2,3,4] ?_
  refine gk_ret env ?_
  rw[followsB,if_pos c1];rfl
 ·try simp only[bb,toN]at c1
  refine gk_region env false [] [2,3,4,5] ?_
  refine gk_region env false [] [2,3,4,5,40] ?_
  refine gk_if (fun c2=> ?_) (fun c2=> ?_)
  ·try simp only[bb,toN]at c2
   refine gk_region env false [] [2,3,4,5] ?_
   refine gk_ret env ?_
   rw[followsB,if_neg (by rw[c1];simp),if_pos (by omega)]
   simp only[tupG,fieldB]
   cases decide (d.doc=f.doc)<;>cases decide (d.field=f.field)<;>cases decide (d.lo≤f.lo)<;>cases decide (f.hi≤d.hi)<;>rfl
  ·try simp only[bb,toN]at c2
   refine gk_region env false [] [2,3,4,5,63] ?_
   refine gk_if (fun c3=> ?_) (fun c3=> ?_)
   ·try simp only[bb,toN]at c3
    refine gk_region env false [] [2,3,4,5] ?_
    refine gk_ret env ?_
    rw[followsB,if_neg (by rw[c1];simp),if_neg (by omega),if_pos c3,dmEq_eq]
    have e:decide (d=swapD f)=(bif (bif (bif (bif (bif (bif decide (d.doc=f.other)then decide (d.other=f.doc)else false)then decide (d.field=f.second)else false)then decide (d.second=f.field)else false)then decide (d.text=f.text)else false)then decide (d.lo=f.lo)else false)then decide (d.hi=f.hi)else false):=by
     rw[Bool.eq_iff_iff]
     obtain ⟨o1,a1,b1,x1,y1,t1,l1,h1⟩:=d
     obtain ⟨o2,a2,b2,x2,y2,t2,l2,h2⟩:=f
     simp only at c3
     simp only[swapD,decide_eq_true_eq,Dm.mk.injEq,Bool.cond_false_right,Bool.and_eq_true]
     grind
    rw[e];rfl
   ·try simp only[bb,toN]at c3
    refine gk_region env false [.call (GC.lift (rnum_ok f.text hf))] [2,3,4,5,6,7] ?_
    refine gk_region env false [.call (in37_ok (numV f.text) d.lo d.hi)] [4] ?_
    refine gk_ret env ?_
    rw[followsB,if_neg (by rw[c1];simp),if_neg (by omega),if_neg (by omega)]
    by_cases h:d.op=2∧f.op=1
    ·rw[if_pos h,decide_eq_true h.1,decide_eq_true h.2]
     simp only[tupG,fieldB,wiV]
     cases decide (d.doc=f.doc)<;>cases decide (d.field=f.field)<;>cases numOk f.text<;>rfl
    ·rw[if_neg h]
     have hz:(bif decide (d.op=2)then decide (f.op=1)else false)=false:=by
      by_cases h2:d.op=2
      ·rw[decide_eq_true h2,decide_eq_false (fun q=>h ⟨h2,q⟩)];rfl
      ·rw[decide_eq_false h2];rfl
     rw[hz];rfl
def anyF (d:Dm) (b:List Dm) (k:Nat):Bool:=(b.drop k).any fun f=>followsB d f
theorem anyF_p {d:Dm} {b:List Dm} {k:Nat} (h:k<b.length):anyF d b k=(followsB d (b.getD k default)||anyF d b (k+1)):=by
 rw[anyF,drop_cons h,List.any_cons];rfl
theorem anyF_n {d:Dm} {b:List Dm} {k:Nat} (h:¬k<b.length):anyF d b k=false:=by
 rw[anyF,List.drop_eq_nil_of_le (by omega)];rfl
theorem covers37_ok (a b:List Dm) (ha:a.length≤9223372036854775807) (hb:b.length≤9223372036854775807) (hx:∀f,f∈b→f.text.size≤9223372036854775807):GC Tryz.prog 20 [rowD a,rowD b] (bG (coversF a b 0)):=by
 refine gc_of_gk Tryz.func20 ?_
 refine gk_region env false [] [0,1,4] ?_
 refine gk_region env false [] [0,1,4,5] ?_
 refine gk_loop (α:=Nat) (fun i=>i≤a.length∧coversF a b 0=coversF a b i) (fun i=>[(5,iG i)]) (fun _=>[]) (fun i=>a.length-i) 0 ⟨Nat.zero_le _,rfl⟩ ?_ (hp:=by simp only[AllP];repeat' first|exact trivial|exact EntL.refl _|exact BEntL.refl _|exact rfl|omega|apply And.intro|intro _)
 rintro i ⟨hi,he⟩
 refine gk_region env false [] [0,1,4,5,11] ?_
 refine gk_ifd (fun c1=> ?_) (fun c1=> ?_)
 ·try simp only[toN]at c1
  refine gk_region env false [] [0,1,4,5,6] ?_
  refine gk_region env false [] [0,1,4,5,6,7] ?_
  refine gk_loop (α:=Nat×Bool) (fun x=>x.1≤b.length∧anyF (a.getD i default) b 0=(x.2||anyF (a.getD i default) b x.1)) (fun x=>[(7,iG x.1),(6,bG x.2)]) (fun _=>[]) (fun x=>b.length-x.1) (0,false) ⟨Nat.zero_le _,rfl⟩ ?_ (hp:=by simp only[AllP];repeat' first|exact trivial|exact EntL.refl _|exact BEntL.refl _|exact rfl|omega|apply And.intro|intro _)
  rintro ⟨k,fd⟩ ⟨hk,hf⟩
  dsimp only at*
  refine gk_region env false [] [0,1,4,5,6,7,17] ?_
  refine gk_ifd (fun c2=> ?_) (fun c2=> ?_)
  ·try simp only[toN]at c2
   refine gk_region env false [.call (follows37_ok (a.getD i default) (b.getD k default) (hx _ (getD_mem (by omega))))] [0,1,4,5,6,7] ?_
   refine gk_region env false [] [0,1,4,5,6,7] ?_
   refine gk_round ((k+1,fd||followsB (a.getD i default) (b.getD k default))) ?_ (hp:=by simp only[AllP];repeat' first|exact trivial|exact EntL.refl _|exact BEntL.refl _|exact rfl|omega|apply And.intro|intro _|(cases fd<;>rfl))
   refine ⟨by simp only;omega,?_⟩
   simp only
   rw[hf,anyF_p (by omega),Bool.or_assoc]
  ·try simp only[toN]at c2
   refine gk_region env false [] [0,1,4,5,33] ?_
   refine gk_if (fun c3=> ?_) (fun c3=> ?_)
   ·try simp only[bb,toN]at c3
    refine gk_region env false [] [0,1,4,5] ?_
    refine gk_ret env ?_
    have hq:anyF (a.getD i default) b 0=false:=by rw[hf,c3,anyF_n (by omega)];rfl
    rw[he,coversF,if_pos (by omega),if_neg (show ¬(b.any fun f=>followsB (a.getD i default) f)=true from fun h=>by rw[show anyF (a.getD i default) b 0=(b.any fun f=>followsB (a.getD i default) f)from rfl]at hq;rw[hq]at h;cases h)];rfl
   ·try simp only[bb,toN]at c3
    refine gk_region env false [] [0,1,4,5] ?_
    refine gk_round (i+1) ?_ (hp:=by simp only[AllP];repeat' first|exact trivial|exact EntL.refl _|exact BEntL.refl _|exact rfl|omega|apply And.intro|intro _)
    have hq:anyF (a.getD i default) b 0=true:=by rw[hf,c3,Bool.true_or]
    refine ⟨by omega,he.trans ?_⟩
    rw[coversF,if_pos (by omega),if_pos (show (b.any fun f=>followsB (a.getD i default) f)=true from hq)]
 ·try simp only[toN]at c1
  refine gk_region env false [] [4] ?_
  refine gk_ret env ?_
  rw[he,coversF,if_neg (by omega)];rfl
end Go.Gh
namespace Go.Gh
open Go Go.Proofs
set_option maxRecDepth 1000000
set_option maxHeartbeats 2000000
set_option linter.unusedSimpArgs false
set_option linter.unusedVariables false
set_option linter.unnecessarySimpa false
set_option linter.unusedSectionVars false
variable [PowTab] [ItoaU]
open Go.RowKit
def sufP (l:List Dc) (k:Nat):Int:=if k<l.length then (countE (l.getD k default)).1*sufP l (k+1)else 1
termination_by l.length-k
theorem sufP_p {l:List Dc} {k:Nat} (h:k<l.length):sufP l k=(countE (l.getD k default)).1*sufP l (k+1):=by rw[sufP,if_pos h]
theorem sufP_n {l:List Dc} {k:Nat} (h:¬k<l.length):sufP l k=1:=by rw[sufP,if_neg h]
theorem cntF_suf {l:List Dc} :∀(k i:Nat) (acc:List Int) (n:Int) (r:List Int) (m:Int),l.length-i=k→cntF l i acc n=some (r,m)→m=n*sufP l i:=by
 intro k
 induction k with
 |zero=>
  intro i acc n r m hk he
  rw[cntF,if_neg (by omega)]at he
  cases he
  rw[sufP_n (by omega)];omega
 |succ k ih=>
  intro i acc n r m hk he
  rw[cntF,if_pos (by omega)]at he
  cases hb:cntBad (l.getD i default) n with
  |true=>rw[hb,if_pos rfl]at he;cases he
  |false=>
   rw[hb,if_neg (by simp)]at he
   rw[ih (i+1) _ _ r m (by omega) he,sufP_p (k:=i) (by omega),Int.mul_assoc]
theorem counts_suf {l:List Dc} (h:(countsE l).2.2=0):(countsE l).2.1=sufP l 0:=by
 unfold countsE at h⊢
 split at h
 ·simp at h
 ·rename_i h8
  rw[if_neg h8]
  split at h
  ·rename_i hd
   rw[if_pos hd]
   cases hc:cntF l 0 [] 1 with
   |none=>rw[hc]at h;simp at h
   |some r=>
    obtain ⟨r,n⟩:=r
    have:=cntF_suf _ 0 [] 1 r n rfl hc
    simp only
    omega
  ·rename_i hd
   exact absurd h hd
theorem sufP_pos {l:List Dc} (h:∀j,j<l.length→1≤(countE (l.getD j default)).1):∀(n k:Nat),l.length-k=n→1≤sufP l k:=by
 intro n
 induction n with
 |zero=>intro k hk;rw[sufP_n (by omega)];omega
 |succ n ih=>
  intro k hk
  rw[sufP_p (by omega)]
  have h1:=h k (by omega)
  have h2:=ih (k+1) (by omega)
  have:=Int.mul_le_mul h1 h2 (by omega) (by omega)
  omega
def rdK (l:List Dc) (i:Int) (k:Nat):Pn:=(readE (l.getD k default) ((i/sufP l (k+1)) % (countE (l.getD k default)).1)).1
theorem rdL_map {l:List Dc} {cs:List Int} {i:Int} (hc:∀j,j<l.length→cs.getD j default=(countE (l.getD j default)).1) (hp:∀j,j<l.length→1≤(countE (l.getD j default)).1):∀j,j≤l.length→rdL l cs j (i/sufP l j)=(List.range j).map (rdK l i):=by
 intro j
 induction j with
 |zero=>intro _;rfl
 |succ j ih=>
  intro hj
  rw[rdL,List.range_succ,List.map_append,hc j (by omega)]
  have e:i/sufP l (j+1)/(countE (l.getD j default)).1=i/sufP l j:=by
   have hs:=sufP_pos hp _ (j+1) rfl
   rw[Int.ediv_ediv,if_neg (fun h=>by have:=h.1;omega),Int.sub_zero,sufP_p (k:=j) (by omega),Int.mul_comm]
  rw[e,ih (by omega)]
  rfl
theorem readL_map {l:List Dc} {cs:List Int} {i:Int} (hc:∀j,j<l.length→cs.getD j default=(countE (l.getD j default)).1) (hp:∀j,j<l.length→1≤(countE (l.getD j default)).1):readL l cs i=(List.range l.length).map (rdK l i):=by
 have:=rdL_map (i:=i) hc hp l.length (Nat.le_refl _)
 rw[sufP_n (by omega),Int.ediv_one]at this
 exact this
theorem range_next {l:List Dc} {i:Int} {k:Nat} :(List.range (k+1)).map (rdK l i)=(List.range k).map (rdK l i)++ [rdK l i k]:=by
 rw[List.range_succ,List.map_append];rfl
theorem read34_ok (docs:List Dc) (hd:FitL docs) (i:Int):GC Tryz.prog 168 [rowDc docs,iG i] (.tup [rowP (if (countsE docs).2.2=0∧0≤i∧i<(countsE docs).2.1 then readL docs (countsE docs).1 i else []),iG (if (countsE docs).2.2=0 then if 0≤i∧i<(countsE docs).2.1 then 0 else 4 else (countsE docs).2.2)]):=by
 have hl:=hd.len
 refine gc_of_gk Tryz.func168 ?_
 refine gk_region env false [] [0,1,4,5] ?_
 refine gk_region env false [.call (count34_ok docs hd)] [0,1,4,5,6,7] ?_
 refine gk_region env false [] [0,1,4,5,6,7,21] ?_
 refine gk_ifn (fun c1=> ?_) (fun c1=> ?_)
 ·try simp only[toN]at c1
  refine gk_region env false [] [0,1,4,5,6] ?_
  refine gk_retE env ?_
  rw[if_neg (fun h=>c1 h.1),if_neg c1]
  exact Ent.tup ⟨Ent.nil,Ent.refl _,trivial⟩
 ·try simp only[toN]at c1
  refine gk_region env false [] [0,1,4,5,6,29] ?_
  refine gk_if (fun c2=> ?_) (fun c2=> ?_)
  ·try simp only[bb,toN]at c2
   refine gk_region env false [] [0,1,4,5,6] ?_
   refine gk_retE env ?_
   rw[if_neg (fun h=>by omega),if_pos c1,if_neg (by omega)]
   exact Ent.tup ⟨Ent.nil,Ent.refl _,trivial⟩
  ·try simp only[bb,toN]at c2
   have hcn:=countsE_ok c1
   have hn1:=hcn.n1
   have hsf:=counts_suf c1
   have hcs:∀j,j<docs.length→(countsE docs).1.getD j default=(countE (docs.getD j default)).1:=fun j hj=>(hcn.at_ j hj).1
   have hps:∀j,j<docs.length→1≤(countE (docs.getD j default)).1:=fun j hj=>countE_pos (hcn.at_ j hj).2
   refine gk_region env false [.el default pnC []] [0,1,4,5,6,8] ?_ (hp:=(by simp only[AllP,Int.toNat_natCast];repeat' first|exact trivial|exact EntL.refl _|exact BEntL.refl _|exact rfl|omega|apply And.intro|intro _|(simp[rowL];done)|(simp only[List.length_append,List.length_cons,List.length_nil];omega)|(simp[*];done)))
   refine gk_region env false [] [0,1,4,5,8,9] ?_
   refine gk_region env false [] [0,1,4,5,8,9,10] ?_
   refine gk_loop (α:=Nat) (fun k=>k≤docs.length∧sufP docs k≤4096) (fun k=>[(10,iG k),(9,iG (sufP docs k)),(8,.sl 0 3 0 ((List.range k).map (rdK docs i)).length)]) (fun k=>[(0,some (.row 94 3 (default:Pn) pnC ((List.range k).map (rdK docs i)) 0))]) (fun k=>docs.length-k) 0 ⟨Nat.zero_le _,by omega⟩ ?_ (hp:=by simp only[AllP];repeat' first|exact trivial|exact EntL.refl _|exact BEntL.refl _|exact rfl|omega|apply And.intro|intro _|(simp;done))
   rintro k ⟨hk,hsk⟩
   refine gk_region env false [] [0,1,4,5,8,9,10,35] ?_
   refine gk_ifd (fun c3=> ?_) (fun c3=> ?_)
   ·try simp only[toN]at c3
    have hfk:=hd.at_ (i:=k) (by omega)
    have hck:=hps k (by omega)
    have hs1:=sufP_pos hps _ k rfl
    have hs2:=sufP_pos hps _ (k+1) rfl
    have hsp:sufP docs k/(countE (docs.getD k default)).1=sufP docs (k+1):=by rw[sufP_p (by omega)];exact Int.mul_ediv_cancel_left _ (by omega)
    have hle:sufP docs k≤4096:=hsk
    have hdv0:0≤i/sufP docs (k+1):=Int.ediv_nonneg (by omega) (by omega)
    have hdv1:i/sufP docs (k+1)≤i:=Int.ediv_le_self _ (by omega)
    have hle2:sufP docs (k+1)≤4096:=by have h9:=sufP_p (l:=docs) (k:=k) (by omega);have h8:1*sufP docs (k+1)≤(countE (docs.getD k default)).1*sufP docs (k+1):=Int.mul_le_mul_of_nonneg_right hck (by omega);omega
    refine gk_region env false [.call (GC.lift (rcount_ok (docs.getD k default) hfk))] [0,1,4,5,8,9,10,11] ?_
    refine gk_region env false [] [0,1,4,5,8,9,10,11] ?_ (hp:=(by simp only[AllP,bb,toN,hsp];repeat' first|exact trivial|exact EntL.refl _|exact BEntL.refl _|exact rfl|omega|apply And.intro|intro _))
    refine gk_region env false [.call (GC.lift (rread_ok (docs.getD k default) hfk ((i/sufP docs (k+1)) % (countE (docs.getD k default)).1)))] [0,1,4,5,8,9,10,13] ?_ (hp:=(by simp only[AllP,bb,toN,hsp];repeat' first|exact trivial|exact EntL.refl _|exact BEntL.refl _|exact rfl|omega|apply And.intro|intro _))
    refine gk_region env false [.el default pnC [rdK docs i k],.el default pnC (((List.range k).map (rdK docs i))++ [rdK docs i k])] [0,1,4,5,8,9,10] ?_ (hp:=(by simp only[AllP,Int.toNat_natCast];repeat' first|exact trivial|exact EntL.refl _|exact BEntL.refl _|exact rfl|omega|apply And.intro|intro _|(simp[rowL];done)|(simp only[List.length_append,List.length_cons,List.length_nil];omega)|(simp[*];done)|(simp;omega)))
    refine gk_region env false [] [0,1,4,5,8,9,10] ?_
    refine gk_round (k+1) ?_ (hp:=by simp only[AllP,range_next,hsp];repeat' first|exact trivial|exact EntL.refl _|exact BEntL.refl _|exact rfl|omega|apply And.intro|intro _|(simp;done))
    exact ⟨by omega,hle2⟩
   ·try simp only[toN]at c3
    refine gk_region env false [] [4,5] ?_
    refine gk_ret env ?_
    obtain rfl:k=docs.length:=by omega
    rw[if_pos ⟨c1,c2⟩,if_pos c1,if_pos c2,readL_map hcs hps];rfl
end Go.Gh
