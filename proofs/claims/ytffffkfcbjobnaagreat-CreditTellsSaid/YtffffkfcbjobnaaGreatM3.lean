/- Walks by the logic of calls, and plain laws (several texts in one). -/
import Derived.Test.YtffffkfcbjobnaaGreatM2
import Derived.Test.YtffffkfcbjobnaaGreatGh3
namespace Go.Gh
open Go Go.Proofs
set_option maxRecDepth 1000000
set_option maxHeartbeats 2000000
set_option linter.unusedSimpArgs false
set_option linter.unusedVariables false
set_option linter.unnecessarySimpa false
open Go.RowKit
def In64 (n:Int):Prop:= -9223372036854775808≤n∧n≤9223372036854775807
def plainB (c:Int):Bool:=decide (32≤c)&&decide (c≤126)
def valueOk (s:ByteArray):Bool:=decide ((s.size:Int)≤400)&&decide (span plainB s 0=s.size)
def escS (s:ByteArray):ByteArray:=ofL (Go.Proofs.YtffffkfcbjobnaaGreat.Lx.quote (bs s))
def quoteV (s:ByteArray):ByteArray:=if valueOk s then escS s else ⟨#[]⟩
theorem escaped_ok (s:ByteArray) (hs:s.size≤1000000):GC Tryz.prog 211 [sG s] (sG (escS s)):=
 gc_of_old Tryz.func211 rfl rfl rfl rfl fun w=>Go.Proofs.YtffffkfcbjobnaaGreat.escaped_any s w hs
theorem escS_size (s:ByteArray):(escS s).size≤2*s.size+2:=by
 have h:=Go.Proofs.YtffffkfcbjobnaaGreat.esc_len (bs s)
 rw[bs_size]at h
 show ((Go.Proofs.YtffffkfcbjobnaaGreat.Lx.quote (bs s)).toArray).size≤_
 simp only[Go.Proofs.YtffffkfcbjobnaaGreat.Lx.quote,List.size_toArray,List.length_cons,List.length_append,List.length_nil]
 omega
theorem numVal_nonneg {s:ByteArray} (h:numBad s=false):∀(k i:Nat) (n:Int),s.size-i=k→0≤n→0≤numVal s i n:=by
 intro k
 induction k with
 |zero=>intro i n hi hn;rw[numVal,if_neg (by omega)];exact hn
 |succ k ih=>
  intro i n hi hn
  rw[numVal,if_pos (by omega)]
  have:=digit_of h (i:=i) (by omega)
  exact ih (i+1) _ (by omega) (by omega)
theorem numV_range (s:ByteArray):0≤numV s∧numV s≤1099511627776:=by
 unfold numV
 cases h:numBad s with
 |true=>simp
 |false=>
  have:=numVal_nonneg h _ 0 0 rfl (by omega)
  simp only[Bool.false_eq_true,if_false]
  split<;>omega
theorem plain_ok (c:Int):GC Tryz.prog 210 [cG c] (bG (plainB c)):=by
 refine gc_of_gk Tryz.func210 ?_
 refine gk_region env false [] [0,2] ?_
 refine gk_region env false [] [2] ?_
 refine gk_ret env ?_
 simp[plainB,tupG]
theorem spanP_ok (s:ByteArray) (hs:s.size≤9223372036854775807):GC Tryz.prog 57 [sG s,fG 210] (iG (span plainB s 0)):=by
 refine gc_of_gk Tryz.func57 ?_
 refine gk_region env false [] [0,1,4] ?_
 refine gk_region env false [] [0,1,4,5] ?_
 refine gk_loop (α:=Nat) (fun i=>i≤s.size∧span plainB s 0=span plainB s i) (fun i=>[(5,iG i)]) (fun _=>[]) (fun i=>s.size-i) 0 ⟨by omega,rfl⟩ ?_
 rintro i ⟨hi,he⟩
 refine gk_region env false [.call (plain_ok (byteAt s i))] [0,1,4,5,16] ?_
 refine gk_if (fun c1=> ?_) (fun c1=> ?_)
 ·try simp only[bb,toN]at c1
  refine gk_region env false [] [0,1,4,5] ?_
  refine gk_round (i+1) ?_
  refine ⟨by omega,he.trans ?_⟩
  rw[span,if_pos (by omega),if_pos c1.2]
 ·try simp only[bb,toN]at c1
  refine gk_region env false [] [4] ?_
  refine gk_ret env ?_
  rw[he,span]
  rcases c1 with h|h
  ·rw[if_neg (by omega)];rfl
  ·rw[h];simp[tupG]
theorem quote_ok (s:ByteArray) (hs:s.size≤9223372036854775807):GC Tryz.prog 209 [sG s] (.tup [sG (quoteV s),bG (valueOk s)]):=by
 refine gc_of_gk Tryz.func209 ?_
 refine gk_region env false [] [0,2,3] ?_
 refine gk_region env false [.call (spanP_ok s hs)] [0,2,3,13] ?_
 refine gk_if (fun c1=> ?_) (fun c1=> ?_)
 ·try simp only[bb,toN]at c1
  refine gk_region env false [] [0,2,3] ?_
  refine gk_ret env ?_
  have e:valueOk s=false:=by
   rw[valueOk,Bool.and_eq_false_iff]
   rcases c1 with h|h
   ·exact .inl (decide_eq_false (by omega))
   ·exact .inr (decide_eq_false h)
  simp[quoteV,e,tupG]
 ·try simp only[bb,toN]at c1
  refine gk_region env false [.call (escaped_ok s (by omega))] [2,3] ?_
  refine gk_ret env ?_
  have e:valueOk s=true:=by
   rw[valueOk,decide_eq_true (by omega),decide_eq_true c1.2];rfl
  simp[quoteV,e,tupG]
end Go.Gh
namespace Go.Gh
open Go Go.Proofs
set_option maxRecDepth 1000000
set_option maxHeartbeats 2000000
set_option linter.unusedSimpArgs false
set_option linter.unusedVariables false
set_option linter.unnecessarySimpa false
open Go.RowKit
structure Dm where
 op:Int
 doc:ByteArray
 field:ByteArray
 other:ByteArray
 second:ByteArray
 text:ByteArray
 lo:Int
 hi:Int
deriving DecidableEq
instance :Inhabited Dm:=⟨⟨0,⟨#[]⟩,⟨#[]⟩,⟨#[]⟩,⟨#[]⟩,⟨#[]⟩,0,0⟩⟩
def dmC (d:Dm):List D:=[.sc (.int .i64 d.op),.sc (.string d.doc),.sc (.string d.field),.sc (.string d.other),.sc (.string d.second),.sc (.string d.text),.sc (.int .i64 d.lo),.sc (.int .i64 d.hi)]
abbrev dmG (d:Dm):G:= .agg [iG d.op,sG d.doc,sG d.field,sG d.other,sG d.second,sG d.text,iG d.lo,iG d.hi]
abbrev rowP (l:List Pn):G:= .d (.row default pnC l)
abbrev rowD (l:List Dm):G:= .d (.row default dmC l)
abbrev spG (a b:ByteArray):G:= .agg [sG a,sG b]
theorem kind1_ok (p:Pn) (s:ByteArray):GC Tryz.prog 201 [pnG p,.ep [.sc (.string s)]] (bG (decide (p.kind=s))):=by
 refine gc_of_gk Tryz.func201 ?_
 refine gk_region env false [] [1,2,3] ?_
 refine gk_region env false [] [3] ?_
 refine gk_ret env ?_
 rfl
theorem reads1_ok (s a b t:ByteArray):GC Tryz.prog 208 [sG s,.ep [.sc (.string a),.sc (.string b),.sc (.string t)]] (bG (!decide (s=t))):=by
 refine gc_of_gk Tryz.func208 ?_
 refine gk_region env false [] [0,1,3] ?_
 refine gk_region env false [] [3] ?_
 refine gk_ret env ?_
 rfl
theorem agrees1_ok (s:ByteArray) (l:List ByteArray) (hl:0<l.length):GM Tryz.prog 217 [sG s,.ptr 0 0 0 0] [.box [rowS l]] (bG (!decide (s=l.getD 0 default))) [some (.box [rowS l])]:=by
 refine gm_of_gk Tryz.func217 ?_
 refine gk_region env false [] [0,1,3] ?_
 refine gk_region env false [] [3] ?_
 refine gk_retM env [bG (!decide (s=l.getD 0 default))] (hp:= ?_)
 simp[AllP]
theorem indexK_ok (l:List Pn) (hl:l.length≤9223372036854775807) (s:ByteArray):GC Tryz.prog 202 [rowP l,.fn (.func 201) [] [.ep [.sc (.string s)]]] (iG (findI (fun p=>decide (p.kind=s)) l 0)):=by
 refine gc_of_gk Tryz.func202 ?_
 refine gk_region env false [] [0,1,4] ?_
 refine gk_region env false [] [0,1,4,7,8] ?_
 refine gk_loop (α:=Nat) (fun i=>i≤l.length∧findI (fun p=>decide (p.kind=s)) l 0=findI (fun p=>decide (p.kind=s)) l i) (fun i=>[(8,iG i)]) (fun _=>[]) (fun i=>l.length-i) 0 ⟨by omega,rfl⟩ ?_ (hp:=by simp[AllP];rfl)
 rintro i ⟨hi,he⟩
 refine gk_region env false [] [0,1,4,7,8,9] ?_
 refine gk_ifd (fun c1=> ?_) (fun c1=> ?_)
 ·try simp only[toN]at c1
  refine gk_region env false [] [0,1,4,5,7,8] ?_
  refine gk_region env false [.call (kind1_ok (l.getD i default) s)] [0,1,4,5,7,8,16] ?_
  refine gk_if (fun c2=> ?_) (fun c2=> ?_)
  ·try simp only[bb,toN]at c2
   refine gk_region env false [] [0,1,4,7,8] ?_
   refine gk_ret env ?_
   rw[he,findI,if_pos (by omega),if_pos (by simpa using c2)];rfl
  ·try simp only[bb,toN]at c2
   refine gk_region env false [] [0,1,4,7,8] ?_
   refine gk_round (i+1) ?_ (hp:=by simp[AllP];rfl)
   refine ⟨by omega,he.trans ?_⟩
   rw[findI,if_pos (by omega),if_neg (by simpa using c2)]
 ·try simp only[toN]at c1
  refine gk_region env false [] [4] ?_
  refine gk_ret env ?_
  rw[he,findI,if_neg (by omega)];rfl
theorem indexQ_ok (l:List ByteArray) (hl:l.length≤9223372036854775807) (a b t:ByteArray):GC Tryz.prog 153 [rowS l,.fn (.func 208) [] [.ep [.sc (.string a),.sc (.string b),.sc (.string t)]]] (iG (findI (fun x=> !decide (x=t)) l 0)):=by
 refine gc_of_gk Tryz.func153 ?_
 refine gk_region env false [] [0,1,4] ?_
 refine gk_region env false [] [0,1,4,7,8] ?_
 refine gk_loop (α:=Nat) (fun i=>i≤l.length∧findI (fun x=> !decide (x=t)) l 0=findI (fun x=> !decide (x=t)) l i) (fun i=>[(8,iG i)]) (fun _=>[]) (fun i=>l.length-i) 0 ⟨by omega,rfl⟩ ?_ (hp:=by simp[AllP];rfl)
 rintro i ⟨hi,he⟩
 refine gk_region env false [] [0,1,4,7,8,9] ?_
 refine gk_ifd (fun c1=> ?_) (fun c1=> ?_)
 ·try simp only[toN]at c1
  refine gk_region env false [] [0,1,4,5,7,8] ?_
  refine gk_region env false [.call (reads1_ok (l.getD i default) a b t)] [0,1,4,5,7,8,16] ?_
  refine gk_if (fun c2=> ?_) (fun c2=> ?_)
  ·try simp only[bb,toN]at c2
   refine gk_region env false [] [0,1,4,7,8] ?_
   refine gk_ret env ?_
   rw[he,findI,if_pos (by omega),if_pos (by simpa using c2)];rfl
  ·try simp only[bb,toN]at c2
   refine gk_region env false [] [0,1,4,7,8] ?_
   refine gk_round (i+1) ?_ (hp:=by simp[AllP];rfl)
   refine ⟨by omega,he.trans ?_⟩
   rw[findI,if_pos (by omega),if_neg (by simpa using c2)]
 ·try simp only[toN]at c1
  refine gk_region env false [] [4] ?_
  refine gk_ret env ?_
  rw[he,findI,if_neg (by omega)];rfl
theorem indexA_ok (l:List ByteArray) (hl:l.length≤9223372036854775807) (m:List ByteArray) (hm:l.length≠0→0<m.length):GM Tryz.prog 153 [rowS l,.fn (.func 217) [] [.ptr 0 0 0 0]] [.box [rowS m]] (iG (findI (fun x=> !decide (x=m.getD 0 default)) l 0)) [some (.box [rowS m])]:=by
 refine gm_of_gk Tryz.func153 ?_
 refine gk_region env false [] [0,1,4] ?_
 refine gk_region env false [] [0,1,4,7,8] ?_
 refine gk_loop (α:=Nat) (fun i=>i≤l.length∧findI (fun x=> !decide (x=m.getD 0 default)) l 0=findI (fun x=> !decide (x=m.getD 0 default)) l i) (fun i=>[(8,iG i)]) (fun _=>[]) (fun i=>l.length-i) 0 ⟨by omega,rfl⟩ ?_ (hp:=by simp[AllP];rfl)
 rintro i ⟨hi,he⟩
 refine gk_region env false [] [0,1,4,7,8,9] ?_
 refine gk_ifd (fun c1=> ?_) (fun c1=> ?_)
 ·try simp only[toN]at c1
  refine gk_region env false [] [0,1,4,5,7,8] ?_
  refine gk_region env false [.callm [0] (agrees1_ok (l.getD i default) m (hm (by omega)))] [0,1,4,5,7,8,16] ?_
  refine gk_if (fun c2=> ?_) (fun c2=> ?_)
  ·try simp only[bb,toN]at c2
   refine gk_region env false [] [0,1,4,7,8] ?_
   refine gk_retM env [iG (findI (fun x=> !decide (x=m.getD 0 default)) l 0)] (hp:= ?_)
   simp only[AllP]
   rw[he,findI,if_pos (by omega),if_pos (by simpa using c2)]
   simp
  ·try simp only[bb,toN]at c2
   refine gk_region env false [] [0,1,4,7,8] ?_
   refine gk_round (i+1) ?_ (hp:=by simp[AllP];rfl)
   refine ⟨by omega,he.trans ?_⟩
   rw[findI,if_pos (by omega),if_neg (by simpa using c2)]
 ·try simp only[toN]at c1
  refine gk_region env false [] [4] ?_
  refine gk_retM env [iG (findI (fun x=> !decide (x=m.getD 0 default)) l 0)] (hp:= ?_)
  simp only[AllP]
  rw[he,findI,if_neg (by omega)]
  simp
theorem hasK_ok (l:List Pn) (hl:l.length≤9223372036854775807) (s:ByteArray):GC Tryz.prog 200 [rowP l,.fn (.func 201) [] [.ep [.sc (.string s)]]] (bG (l.any (fun p=>decide (p.kind=s)))):=by
 refine gc_of_gk Tryz.func200 ?_
 refine gk_region env false [] [0,1,4] ?_
 refine gk_region env false [.call (indexK_ok l hl s)] [4] ?_
 refine gk_ret env ?_
 rw[←findI_any];rfl
theorem hasR_ok (l:List ByteArray) (hl:l.length≤9223372036854775807) (a b t:ByteArray):GC Tryz.prog 141 [rowS l,.fn (.func 208) [] [.ep [.sc (.string a),.sc (.string b),.sc (.string t)]]] (bG (l.any (fun x=> !decide (x=t)))):=by
 refine gc_of_gk Tryz.func141 ?_
 refine gk_region env false [] [0,1,4] ?_
 refine gk_region env false [.call (indexQ_ok l hl a b t)] [4] ?_
 refine gk_ret env ?_
 rw[←findI_any];rfl
theorem hasA_ok (l:List ByteArray) (hl:l.length≤9223372036854775807) (m:List ByteArray) (hm:l.length≠0→0<m.length):GM Tryz.prog 141 [rowS l,.fn (.func 217) [] [.ptr 0 0 0 0]] [.box [rowS m]] (bG (l.any fun x=> !decide (x=m.getD 0 default))) [some (.box [rowS m])]:=by
 refine gm_of_gk Tryz.func141 ?_
 refine gk_region env false [] [0,1,4] ?_
 refine gk_region env false [.callm [0] (indexA_ok l hl m hm)] [4] ?_
 refine gk_retM env [bG (l.any fun x=> !decide (x=m.getD 0 default))] (hp:= ?_)
 simp only[AllP]
 rw[←findI_any]
 simp
def kindV (l:List Pn) (s:ByteArray):Bool:=l.any fun p=>decide (p.kind=s)
theorem kind_ok (l:List Pn) (hl:l.length≤9223372036854775807) (s:ByteArray):GC Tryz.prog 199 [rowP l,sG s] (bG (kindV l s)):=by
 refine gc_of_gk Tryz.func199 ?_
 refine gk_region env false [] [0,3,4] ?_
 refine gk_box 0 ?_
 refine gk_region env false [.call (hasK_ok l hl s)] [4] ?_
 refine gk_ret env ?_
 rfl
def atF (p:Pn) (f:ByteArray):Int:=findI (fun x=>decide (x=f)) p.names 0
def lacks (p:Pn) (f:ByteArray):Bool:=decide (atF p f<0)||decide ((p.texts.length:Int)≤atF p f)
def fldF (l:List Pn) (k f:ByteArray) (i:Nat) (acc:List ByteArray):Option (List ByteArray):=
 if i<l.length then
  if (l.getD i default).kind=k then if lacks (l.getD i default) f then none else fldF l k f (i+1) (acc++ [(l.getD i default).texts.getD (atF (l.getD i default) f).toNat default])
  else fldF l k f (i+1) acc
 else some acc
termination_by l.length-i
def fldV (l:List Pn) (k f:ByteArray):List ByteArray:=(fldF l k f 0 []).getD []
def fldOk (l:List Pn) (k f:ByteArray):Bool:=(fldF l k f 0 []).isSome
def Small (l:List Pn):Prop:=l.length≤1000∧∀p,p∈l→p.names.length≤1000∧p.texts.length≤1000
theorem Small.at_ {l:List Pn} (h:Small l) {i:Nat} (hi:i<l.length):(l.getD i default).names.length≤1000∧(l.getD i default).texts.length≤1000:=by
 rw[List.getD_eq_getElem?_getD,List.getElem?_eq_getElem hi]
 exact h.2 _ (List.getElem_mem hi)
theorem atF_range (p:Pn) (f:ByteArray): -1≤atF p f∧atF p f<p.names.length:=by
 rcases findI_range (fun x=>decide (x=f)) p.names _ 0 rfl with ⟨h1,_⟩|⟨j,h1,h2,h3,_⟩
 ·unfold atF;rw[h1];omega
 ·unfold atF;rw[h3];omega
theorem fields_ok (l:List Pn) (hs:Small l) (k f:ByteArray):GC Tryz.prog 207 [rowP l,spG k f] (.tup [rowS (fldV l k f),bG (fldOk l k f)]):=by
 have hl1:=hs.1
 refine gc_of_gk Tryz.func207 ?_
 refine gk_region env false [] [0,3,4,5] ?_
 refine gk_region env false [] [0,3,4,5,6] ?_
 refine gk_nil 6 9 1 (default:ByteArray) strC (by rfl) (by rfl) ?_
 refine gk_region env false [] [3,4,5,6,10,11,12] ?_
 refine gk_loop (α:=Nat×List ByteArray) (fun x=>x.1≤l.length∧x.2.length≤x.1∧fldF l k f 0 []=fldF l k f x.1 x.2) (fun x=>[(12,iG x.1),(6,.sl 1 1 0 x.2.length)]) (fun x=>[(1,some (.row 9 1 default strC x.2 0))]) (fun x=>l.length-x.1) (0,[]) ⟨by simp,by simp,rfl⟩ ?_
 rintro ⟨i,acc⟩ ⟨hi,hj,he⟩
 dsimp only at*
 have lk:lacks (l.getD i default) f=(decide (atF (l.getD i default) f<0)||decide (((l.getD i default).texts.length:Int)≤atF (l.getD i default) f)):=rfl
 have h1:=fun h:i<l.length=>hs.at_ h
 have h2:=atF_range (l.getD i default) f
 refine gk_region env false [] [3,4,5,6,10,11,12,13] ?_
 refine gk_ifd (fun c1=> ?_) (fun c1=> ?_)
 ·try simp only[toN]at c1
  refine gk_region env false [] [3,4,5,6,8,10,11,12] ?_
  refine gk_region env false [] [3,4,5,6,8,10,11,12,20] ?_
  refine gk_ifn (fun c2=> ?_) (fun c2=> ?_)
  ·try simp only[toN]at c2
   refine gk_region env false [] [3,4,5,6,10,11,12] ?_
   refine gk_round ((i+1,acc)) ?_
   refine ⟨by simp only;omega,by simp only;omega,he.trans ?_⟩
   rw[fldF,if_pos (by omega),if_neg c2]
  ·try simp only[toN]at c2
   refine gk_region env false [.call (indexS_ok (l.getD i default).names (by have:=h1 (by omega);omega) f)] [3,4,5,6,8,9,10,11,12] ?_
   refine gk_region env false [] [3,4,5,6,8,9,10,11,12,34] ?_
   refine gk_if (fun c3=> ?_) (fun c3=> ?_)
   ·try simp only[bb,toN]at c3
    refine gk_region env false [] [3,4,5,6,8,9,10,11,12] ?_
    refine gk_retE env ?_
    have e:fldF l k f 0 []=none:=he.trans (by rw[fldF,if_pos (by omega),if_pos c2,if_pos (by rw[lk];simp only[Bool.or_eq_true,decide_eq_true_eq];simp only[atF];exact c3)])
    have e1:fldV l k f= []:=by simp[fldV,e]
    have e2:fldOk l k f=false:=by simp[fldOk,e]
    rw[e1,e2]
    exact Ent.tup ⟨Ent.nil,Ent.refl _,trivial⟩
   ·try simp only[bb,toN]at c3
    refine gk_region env false [.el default strC [(l.getD i default).texts.getD (atF (l.getD i default) f).toNat default],.el default strC (acc++ [(l.getD i default).texts.getD (atF (l.getD i default) f).toNat default])] [3,4,5,6,10,11,12] ?_ (hp:=(by simp only[AllP,Int.toNat_natCast];repeat' first|exact trivial|exact EntL.refl _|exact BEntL.refl _|exact rfl|omega|apply And.intro|intro _|(simp[rowL];done)|(simp only[List.length_append,List.length_cons,List.length_nil];omega)|(simp[*];done)))
    refine gk_region env false [] [3,4,5,6,10,11,12] ?_
    refine gk_round ((i+1,acc++ [(l.getD i default).texts.getD (atF (l.getD i default) f).toNat default])) ?_
    refine ⟨by simp only;omega,by simp only[List.length_append,List.length_cons,List.length_nil];omega,he.trans ?_⟩
    rw[fldF,if_pos (by omega),if_pos c2,if_neg (by rw[lk];simp only[Bool.or_eq_true,decide_eq_true_eq];simp only[atF];omega)]
 ·try simp only[toN]at c1
  refine gk_region env false [] [4,5] ?_
  refine gk_ret env ?_
  have e:fldF l k f 0 []=some acc:=he.trans (by rw[fldF,if_neg (by omega)])
  simp[fldV,fldOk,e,tupG]
theorem fields_own (l:List Pn) (hs:Small l) (k f:ByteArray):GM Tryz.prog 207 [rowP l,spG k f] [] (.tup [.sl 0 1 0 (fldV l k f).length,bG (fldOk l k f)]) [some (.row 9 1 default strC (fldV l k f) 0)]:=by
 have hl1:=hs.1
 refine gm_of_gk Tryz.func207 ?_
 refine gk_region env false [] [0,3,4,5] ?_
 refine gk_region env false [] [0,3,4,5,6] ?_
 refine gk_nil 6 9 1 (default:ByteArray) strC (by rfl) (by rfl) ?_
 refine gk_region env false [] [3,4,5,6,10,11,12] ?_
 refine gk_loop (α:=Nat×List ByteArray) (fun x=>x.1≤l.length∧x.2.length≤x.1∧fldF l k f 0 []=fldF l k f x.1 x.2) (fun x=>[(12,iG x.1),(6,.sl 1 1 0 x.2.length)]) (fun x=>[(1,some (.row 9 1 default strC x.2 0))]) (fun x=>l.length-x.1) (0,[]) ⟨by simp,by simp,rfl⟩ ?_
 rintro ⟨i,acc⟩ ⟨hi,hj,he⟩
 dsimp only at*
 have lk:lacks (l.getD i default) f=(decide (atF (l.getD i default) f<0)||decide (((l.getD i default).texts.length:Int)≤atF (l.getD i default) f)):=rfl
 have h1:=fun h:i<l.length=>hs.at_ h
 have h2:=atF_range (l.getD i default) f
 refine gk_region env false [] [3,4,5,6,10,11,12,13] ?_
 refine gk_ifd (fun c1=> ?_) (fun c1=> ?_)
 ·try simp only[toN]at c1
  refine gk_region env false [] [3,4,5,6,8,10,11,12] ?_
  refine gk_region env false [] [3,4,5,6,8,10,11,12,20] ?_
  refine gk_ifn (fun c2=> ?_) (fun c2=> ?_)
  ·try simp only[toN]at c2
   refine gk_region env false [] [3,4,5,6,10,11,12] ?_
   refine gk_round ((i+1,acc)) ?_
   refine ⟨by simp only;omega,by simp only;omega,he.trans ?_⟩
   rw[fldF,if_pos (by omega),if_neg c2]
  ·try simp only[toN]at c2
   refine gk_region env false [.call (indexS_ok (l.getD i default).names (by have:=h1 (by omega);omega) f)] [3,4,5,6,8,9,10,11,12] ?_
   refine gk_region env false [] [3,4,5,6,8,9,10,11,12,34] ?_
   refine gk_if (fun c3=> ?_) (fun c3=> ?_)
   ·try simp only[bb,toN]at c3
    refine gk_region env false [] [3,4,5,6,8,9,10,11,12] ?_
    refine gk_retMn env 4 9 1 (default:ByteArray) strC [.sl 0 1 0 (fldV l k f).length,bG (fldOk l k f)] (hp:= ?_)
    have e:fldF l k f 0 []=none:=he.trans (by rw[fldF,if_pos (by omega),if_pos c2,if_pos (by rw[lk];simp only[Bool.or_eq_true,decide_eq_true_eq];simp only[atF];exact c3)])
    simp[AllP,fldV,fldOk,e]
   ·try simp only[bb,toN]at c3
    refine gk_region env false [.el default strC [(l.getD i default).texts.getD (atF (l.getD i default) f).toNat default],.el default strC (acc++ [(l.getD i default).texts.getD (atF (l.getD i default) f).toNat default])] [3,4,5,6,10,11,12] ?_ (hp:=(by simp only[AllP,Int.toNat_natCast];repeat' first|exact trivial|exact EntL.refl _|exact BEntL.refl _|exact rfl|omega|apply And.intro|intro _|(simp[rowL];done)|(simp only[List.length_append,List.length_cons,List.length_nil];omega)|(simp[*];done)))
    refine gk_region env false [] [3,4,5,6,10,11,12] ?_
    refine gk_round ((i+1,acc++ [(l.getD i default).texts.getD (atF (l.getD i default) f).toNat default])) ?_
    refine ⟨by simp only;omega,by simp only[List.length_append,List.length_cons,List.length_nil];omega,he.trans ?_⟩
    rw[fldF,if_pos (by omega),if_pos c2,if_neg (by rw[lk];simp only[Bool.or_eq_true,decide_eq_true_eq];simp only[atF];omega)]
 ·try simp only[toN]at c1
  refine gk_region env false [] [4,5] ?_
  refine gk_retM env [.sl 0 1 0 (fldV l k f).length,bG (fldOk l k f)] (hp:= ?_)
  have e:fldF l k f 0 []=some acc:=he.trans (by rw[fldF,if_neg (by omega)])
  simp[AllP,fldV,fldOk,e]
end Go.Gh
namespace Go.Gh
open Go Go.Proofs
set_option maxRecDepth 1000000
set_option maxHeartbeats 2000000
set_option linter.unusedSimpArgs false
set_option linter.unusedVariables false
set_option linter.unnecessarySimpa false
open Go.RowKit
theorem clause_need (d:Dm) (h:d.op=0):GC Tryz.prog 46 [dmG d] (.tup [.iface 136 (.agg [sG d.doc]),bG true]):=by
 refine gc_of_gk Tryz.func46 ?_
 refine gk_region env false [] [1,2,3] ?_
 refine gk_region env false [] [1,2,3,4] ?_
 refine gk_region env false [] [1,2,3,4,11] ?_
 refine gk_region env false [] [1,2,3,4,11,12] ?_
 refine gk_ifd (fun c1=> ?_) (fun c1=> ?_)
 ·try simp only[toN]at c1
  refine gk_region env false [] [2,3] ?_
  refine gk_ret env ?_
  simp[tupG,h]
 ·try simp only[toN]at c1
  exfalso;omega
theorem clause_is (d:Dm) (h:d.op=1):GC Tryz.prog 46 [dmG d] (.tup [.iface 138 (.agg [sG d.doc,sG d.field,sG d.text]),bG true]):=by
 refine gc_of_gk Tryz.func46 ?_
 refine gk_region env false [] [1,2,3] ?_
 refine gk_region env false [] [1,2,3,4] ?_
 refine gk_region env false [] [1,2,3,4,11] ?_
 refine gk_region env false [] [1,2,3,4,11,12] ?_
 refine gk_ifd (fun c1=> ?_) (fun c1=> ?_)
 ·try simp only[toN]at c1
  exfalso;omega
 ·try simp only[toN]at c1
  refine gk_region env false [] [1,2,3,4,11,18] ?_
  refine gk_ifd (fun c2=> ?_) (fun c2=> ?_)
  ·try simp only[toN]at c2
   refine gk_region env false [] [2,3] ?_
   refine gk_ret env ?_
   simp[tupG,h]
  ·try simp only[toN]at c2
   exfalso;omega
theorem clause_same (d:Dm) (h:d.op=3):GC Tryz.prog 46 [dmG d] (.tup [.iface 140 (.agg [sG d.doc,sG d.field,sG d.other,sG d.second]),bG true]):=by
 refine gc_of_gk Tryz.func46 ?_
 refine gk_region env false [] [1,2,3] ?_
 refine gk_region env false [] [1,2,3,4] ?_
 refine gk_region env false [] [1,2,3,4,11] ?_
 refine gk_region env false [] [1,2,3,4,11,12] ?_
 refine gk_ifd (fun c1=> ?_) (fun c1=> ?_)
 ·try simp only[toN]at c1
  exfalso;omega
 ·try simp only[toN]at c1
  refine gk_region env false [] [1,2,3,4,11,18] ?_
  refine gk_ifd (fun c2=> ?_) (fun c2=> ?_)
  ·try simp only[toN]at c2
   exfalso;omega
  ·try simp only[toN]at c2
   refine gk_region env false [] [1,2,3,4,11,25] ?_
   refine gk_ifd (fun c3=> ?_) (fun c3=> ?_)
   ·try simp only[toN]at c3
    refine gk_region env false [] [2,3] ?_
    refine gk_ret env ?_
    simp[tupG,h]
   ·try simp only[toN]at c3
    exfalso;omega
theorem clause_within (d:Dm) (h:d.op=2):GC Tryz.prog 46 [dmG d] (.tup [.iface 142 (.agg [sG d.doc,sG d.field,iG d.lo,iG d.hi,bG false]),bG true]):=by
 refine gc_of_gk Tryz.func46 ?_
 refine gk_region env false [] [1,2,3] ?_
 refine gk_region env false [] [1,2,3,4] ?_
 refine gk_region env false [] [1,2,3,4,11] ?_
 refine gk_region env false [] [1,2,3,4,11,12] ?_
 refine gk_ifd (fun c1=> ?_) (fun c1=> ?_)
 ·try simp only[toN]at c1
  exfalso;omega
 ·try simp only[toN]at c1
  refine gk_region env false [] [1,2,3,4,11,18] ?_
  refine gk_ifd (fun c2=> ?_) (fun c2=> ?_)
  ·try simp only[toN]at c2
   exfalso;omega
  ·try simp only[toN]at c2
   refine gk_region env false [] [1,2,3,4,11,25] ?_
   refine gk_ifd (fun c3=> ?_) (fun c3=> ?_)
   ·try simp only[toN]at c3
    exfalso;omega
   ·try simp only[toN]at c3
    refine gk_region env false [] [1,2,3,4,11,35] ?_
    refine gk_ifd (fun c4=> ?_) (fun c4=> ?_)
    ·try simp only[toN]at c4
     refine gk_ifd (fun c5=> ?_) (fun c5=> ?_)
     ·try simp only[toN]at c5
      refine gk_region env false [] [2,3] ?_
      refine gk_ret env ?_
      simp[tupG,h]
     ·try simp only[toN]at c5
      exfalso;omega
    ·try simp only[toN]at c4
     exfalso;omega
theorem clause_sum (d:Dm) (h:d.op=4):GC Tryz.prog 46 [dmG d] (.tup [.iface 142 (.agg [sG d.doc,sG d.field,iG d.lo,iG d.hi,bG true]),bG true]):=by
 refine gc_of_gk Tryz.func46 ?_
 refine gk_region env false [] [1,2,3] ?_
 refine gk_region env false [] [1,2,3,4] ?_
 refine gk_region env false [] [1,2,3,4,11] ?_
 refine gk_region env false [] [1,2,3,4,11,12] ?_
 refine gk_ifd (fun c1=> ?_) (fun c1=> ?_)
 ·try simp only[toN]at c1
  exfalso;omega
 ·try simp only[toN]at c1
  refine gk_region env false [] [1,2,3,4,11,18] ?_
  refine gk_ifd (fun c2=> ?_) (fun c2=> ?_)
  ·try simp only[toN]at c2
   exfalso;omega
  ·try simp only[toN]at c2
   refine gk_region env false [] [1,2,3,4,11,25] ?_
   refine gk_ifd (fun c3=> ?_) (fun c3=> ?_)
   ·try simp only[toN]at c3
    exfalso;omega
   ·try simp only[toN]at c3
    refine gk_region env false [] [1,2,3,4,11,35] ?_
    refine gk_ifd (fun c4=> ?_) (fun c4=> ?_)
    ·try simp only[toN]at c4
     refine gk_ifd (fun c5=> ?_) (fun c5=> ?_)
     ·try simp only[toN]at c5
      refine gk_region env false [] [2,3] ?_
      refine gk_ret env ?_
      simp[tupG,h]
     ·try simp only[toN]at c5
      exfalso;omega
    ·try simp only[toN]at c4
     refine gk_region env false [] [1,2,3,4,35] ?_
     refine gk_ifd (fun c6=> ?_) (fun c6=> ?_)
     ·try simp only[toN]at c6
      refine gk_region env false [] [2,3] ?_
      refine gk_ret env ?_
      simp[tupG,h]
     ·try simp only[toN]at c6
      exfalso;omega
theorem clause_none (d:Dm) (h:d.op≠0∧d.op≠1∧d.op≠2∧d.op≠3∧d.op≠4):GC Tryz.prog 46 [dmG d] (.tup [.d (.sc .nilIface),bG false]):=by
 refine gc_of_gk Tryz.func46 ?_
 refine gk_region env false [] [1,2,3] ?_
 refine gk_region env false [] [1,2,3,4] ?_
 refine gk_region env false [] [1,2,3,4,11] ?_
 refine gk_region env false [] [1,2,3,4,11,12] ?_
 refine gk_ifd (fun c1=> ?_) (fun c1=> ?_)
 ·try simp only[toN]at c1
  exfalso;omega
 ·try simp only[toN]at c1
  refine gk_region env false [] [1,2,3,4,11,18] ?_
  refine gk_ifd (fun c2=> ?_) (fun c2=> ?_)
  ·try simp only[toN]at c2
   exfalso;omega
  ·try simp only[toN]at c2
   refine gk_region env false [] [1,2,3,4,11,25] ?_
   refine gk_ifd (fun c3=> ?_) (fun c3=> ?_)
   ·try simp only[toN]at c3
    exfalso;omega
   ·try simp only[toN]at c3
    refine gk_region env false [] [1,2,3,4,11,35] ?_
    refine gk_ifd (fun c4=> ?_) (fun c4=> ?_)
    ·try simp only[toN]at c4
     refine gk_ifd (fun c5=> ?_) (fun c5=> ?_)
     ·try simp only[toN]at c5
      exfalso;omega
     ·try simp only[toN]at c5
      refine gk_region env false [] [2,3] ?_
      refine gk_ret env ?_
      simp[tupG,h]
    ·try simp only[toN]at c4
     refine gk_region env false [] [1,2,3,4,35] ?_
     refine gk_ifd (fun c6=> ?_) (fun c6=> ?_)
     ·try simp only[toN]at c6
      exfalso;omega
     ·try simp only[toN]at c6
      refine gk_region env false [] [2,3] ?_
      refine gk_ret env ?_
      simp[tupG,h]
theorem ops (n:Int):n=0∨n=1∨n=2∨n=3∨n=4∨(n≠0∧n≠1∧n≠2∧n≠3∧n≠4):=by omega
def Short (l:List Pn):Prop:=Small l∧∀p,p∈l→∀t,t∈p.texts→t.size≤1000
theorem fldF_mem {l:List Pn} (hs:Short l) (k f:ByteArray):∀(n i:Nat) (acc r:List ByteArray),l.length-i=n→fldF l k f i acc=some r→(∀x,x∈acc→x.size≤1000)→(∀x,x∈r→x.size≤1000)∧acc.length≤r.length∧r.length≤acc.length+n∧((∃j,i≤j∧j<l.length∧(l.getD j default).kind=k)→acc.length<r.length):=by
 intro n
 induction n with
 |zero=>
  intro i acc r h1 h2 h3
  rw[fldF,if_neg (by omega)]at h2
  cases h2
  exact ⟨h3,Nat.le_refl _,by omega,fun ⟨j,a,b,_⟩=>by omega⟩
 |succ n ih=>
  intro i acc r h1 h2 h3
  rw[fldF,if_pos (by omega)]at h2
  split at h2
  ·split at h2
   ·cases h2
   ·rename_i hk hl
    obtain ⟨a1,a2,a3,a4⟩:=ih (i+1) _ r (by omega) h2 (fun x hx=>by
     rcases List.mem_append.1 hx with hx|hx
     ·exact h3 x hx
     ·rw[List.mem_singleton.1 hx,List.getD_eq_getElem?_getD]
      cases hg:(l.getD i default).texts[(atF (l.getD i default) f).toNat]? with
      |none=>show (default:ByteArray).size≤_;decide
      |some t=>
       have hm:l.getD i default∈l:=by rw[List.getD_eq_getElem?_getD,List.getElem?_eq_getElem (by omega)];exact List.getElem_mem _
       exact hs.2 _ hm t (List.mem_of_getElem? hg))
    rw[List.length_append,List.length_singleton]at a2 a3 a4
    exact ⟨a1,by omega,by omega,fun _=>by omega⟩
  ·rename_i hk
   obtain ⟨a1,a2,a3,a4⟩:=ih (i+1) acc r (by omega) h2 h3
   refine ⟨a1,a2,by omega,fun ⟨j,b1,b2,b3⟩=>a4 ⟨j,?_,b2,b3⟩⟩
   by_cases e:j=i
   ·subst e;exact absurd b3 hk
   ·omega
theorem fldV_mem {l:List Pn} (hs:Short l) (k f:ByteArray):(∀x,x∈fldV l k f→x.size≤1000)∧(fldV l k f).length≤1000∧(fldOk l k f=true→kindV l k=true→0<(fldV l k f).length):=by
 unfold fldV fldOk
 cases h:fldF l k f 0 []with
 |none=>exact ⟨fun x hx=>by simp at hx,by simp,fun h=>by simp at h⟩
 |some r=>
  obtain ⟨a1,a2,a3,a4⟩:=fldF_mem hs k f _ 0 [] r rfl h (fun x hx=>by simp at hx)
  have:=hs.1.1
  refine ⟨a1,by simp at a3⊢;omega,fun _ hk=> ?_⟩
  obtain ⟨p,hp,hpk⟩:=List.any_eq_true.1 hk
  obtain ⟨j,hj⟩:=List.getElem?_of_mem hp
  have h4:=a4 ⟨j,Nat.zero_le _,(List.getElem?_eq_some_iff.1 hj).1,by rw[List.getD_eq_getElem?_getD,hj];simpa using hpk⟩
  simpa using h4
theorem Short.sz {l:List Pn} (hs:Short l) (k f:ByteArray) (i:Nat):((fldV l k f).getD i default).size≤1000:=by
 rw[List.getD_eq_getElem?_getD]
 cases hg:(fldV l k f)[i]? with
 |none=>show (default:ByteArray).size≤_;decide
 |some t=>exact (fldV_mem hs k f).1 t (List.mem_of_getElem? hg)
def isV (l:List Pn) (k f t:ByteArray):Bool:=fldOk l k f&& !(fldV l k f).any fun x=> !decide (x=t)
def sameV (l:List Pn) (k f k2 f2:ByteArray):Bool:=
 if (!kindV l k|| !kindV l k2)=true then true else fldOk l k f&&(fldOk l k2 f2&& !(fldV l k f++fldV l k2 f2).any fun x=> !decide (x=(fldV l k f).getD 0 default))
def offLim (t:ByteArray) (lo hi:Int) (sm:Bool):Bool:= !numOk t||(!sm&&(decide (numV t<lo)||decide (hi<numV t)))
def limF (l:List ByteArray) (lo hi:Int) (sm:Bool) (i:Nat) (acc:Int):Option Int:=
 if i<l.length then if offLim (l.getD i default) lo hi sm then none else limF l lo hi sm (i+1) (acc+numV (l.getD i default))else some acc
termination_by l.length-i
def limV (l:List Pn) (k f:ByteArray) (lo hi:Int) (sm:Bool):Bool:=
 match limF (fldV l k f) lo hi sm 0 0 with
 |none=>false
 |some a=>fldOk l k f&&(!sm||(decide (lo≤a)&&decide (a≤hi)))
theorem needs_met (k:ByteArray) (l:List Pn) (hs:Short l):GC Tryz.prog 196 [.agg [sG k],rowP l] (bG (kindV l k)):=by
 have hl:=hs.1.1
 refine gc_of_gk Tryz.func196 ?_
 refine gk_region env false [] [1,2,4] ?_
 refine gk_region env false [.call (kind_ok l (by omega) k)] [4] ?_
 refine gk_ret env ?_
 rfl
theorem reads_met (k f t:ByteArray) (l:List Pn) (hs:Short l):GC Tryz.prog 204 [.agg [sG k,sG f,sG t],rowP l] (bG (isV l k f t)):=by
 have hl:=(fldV_mem hs k f).2.1
 refine gc_of_gk Tryz.func204 ?_
 refine gk_region env false [] [1,2,4] ?_
 refine gk_region env false [.call (fields_ok l hs.1 k f)] [2,4,5,6] ?_
 refine gk_box 0 ?_
 refine gk_region env false [.call (hasR_ok (fldV l k f) (by omega) k f t)] [4] ?_
 refine gk_ret env ?_
 rw[isV]
 cases fldOk l k f<;>rfl
theorem agrees_met (k f k2 f2:ByteArray) (l:List Pn) (hs:Short l):GC Tryz.prog 214 [.agg [sG k,sG f,sG k2,sG f2],rowP l] (bG (sameV l k f k2 f2)):=by
 have hl:=hs.1.1
 obtain ⟨_,b1,d1⟩:=fldV_mem hs k f
 obtain ⟨_,b2,d2⟩:=fldV_mem hs k2 f2
 have hf1:=fields_own l hs.1 k f
 have hf2:=fields_ok l hs.1 k2 f2
 obtain ⟨R,hR⟩:∃R,R=sameV l k f k2 f2:=⟨_,rfl⟩
 rw[←hR]
 unfold sameV at hR
 obtain ⟨O1,hO1⟩:∃R,R=fldOk l k f:=⟨_,rfl⟩
 obtain ⟨O2,hO2⟩:∃R,R=fldOk l k2 f2:=⟨_,rfl⟩
 rw[←hO1]at hf1 hR d1
 rw[←hO2]at hf2 hR d2
 refine gc_of_gk Tryz.func214 ?_
 refine gk_region env false [] [1,2,4] ?_
 refine gk_region env false [.call (kind_ok l (by omega) k),.call (kind_ok l (by omega) k2)] [1,2,4,22] ?_
 refine gk_if (fun c1=> ?_) (fun c1=> ?_)
 ·try simp only[bb,toN]at c1
  refine gk_region env false [] [1,2,4] ?_
  refine gk_ret env ?_
  rw[hR,if_pos (by simpa using c1)];rfl
 ·try simp only[bb,toN]at c1
  refine gk_region env false [.callm [] hf1] [1,2,4,5,6] ?_
  refine gk_region env false [.call hf2] [4,5,6,7,8] ?_
  rcases O1 with _|_<;>rcases O2 with _|_
  ·refine gk_region env false [.no,.no,.nu] [4] ?_ (hp:=(by simp[AllP]))
   refine gk_ret env ?_
   rw[hR,if_neg (by simpa using c1)];rfl
  ·refine gk_region env false [.no,.no,.nu] [4] ?_ (hp:=(by simp[AllP]))
   refine gk_ret env ?_
   rw[hR,if_neg (by simpa using c1)];rfl
  ·refine gk_region env false [.no,.no,.nu] [4] ?_ (hp:=(by simp[AllP]))
   refine gk_ret env ?_
   rw[hR,if_neg (by simpa using c1)];rfl
  ·refine gk_region env false [.sh 1 2,.el default strC (fldV l k f++fldV l k2 f2),.callm [2] (hasA_ok (fldV l k f++fldV l k2 f2) (by rw[List.length_append];omega) (fldV l k f) (fun _=>d1 rfl c1.1))] [4] ?_ (hp:=(by simp only[AllP,Int.toNat_natCast];repeat' first|exact trivial|exact EntL.refl _|exact BEntL.refl _|exact rfl|omega|apply And.intro|intro _|(simp[rowL];done)|(simp only[List.length_append,List.length_cons,List.length_nil];omega)|(simp[*];done)))
   refine gk_ret env ?_
   rw[hR,if_neg (by simpa using c1)];rfl
theorem limits_met (k f:ByteArray) (lo hi:Int) (sm:Bool) (l:List Pn) (hs:Short l):GC Tryz.prog 219 [.agg [sG k,sG f,iG lo,iG hi,bG sm],rowP l] (bG (limV l k f lo hi sm)):=by
 have hl:=(fldV_mem hs k f).2.1
 obtain ⟨R,hR⟩:∃R,R=limV l k f lo hi sm:=⟨_,rfl⟩
 rw[←hR]
 unfold limV at hR
 refine gc_of_gk Tryz.func219 ?_
 refine gk_region env false [] [1,2,4] ?_
 refine gk_region env false [.call (fields_ok l hs.1 k f)] [2,4,5,6] ?_
 refine gk_region env false [] [2,4,5,6,7] ?_
 refine gk_region env false [] [2,4,6,7,19,20,21] ?_
 refine gk_loop (α:=Nat×Int) (fun x=>x.1≤(fldV l k f).length∧0≤x.2∧x.2≤1099511627776*x.1∧limF (fldV l k f) lo hi sm 0 0=limF (fldV l k f) lo hi sm x.1 x.2) (fun x=>[(21,iG x.1),(7,iG x.2)]) (fun _=>[]) (fun x=>(fldV l k f).length-x.1) (0,0) ⟨by simp,by simp,by simp,rfl⟩ ?_
 rintro ⟨i,a⟩ ⟨hj,h0,h1,he⟩
 dsimp only at*
 have hz:=hs.sz k f i
 have hr:=numV_range ((fldV l k f).getD i default)
 have ho:offLim ((fldV l k f).getD i default) lo hi sm=(!numOk ((fldV l k f).getD i default)||(!sm&&(decide (numV ((fldV l k f).getD i default)<lo)||decide (hi<numV ((fldV l k f).getD i default))))):=rfl
 refine gk_region env false [] [2,4,6,7,19,20,21,22] ?_
 refine gk_ifd (fun c1=> ?_) (fun c1=> ?_)
 ·try simp only[toN]at c1
  refine gk_region env false [] [2,4,6,7,9,19,20,21] ?_
  refine gk_region env false [.call (number_ok ((fldV l k f).getD i default) (by omega))] [2,4,6,7,10,11,19,20,21] ?_
  refine gk_region env false [] [2,4,6,7,10,19,20,21,48] ?_
  refine gk_if (fun c2=> ?_) (fun c2=> ?_)
  ·try simp only[bb,toN]at c2
   refine gk_region env false [] [2,4,6,7,10,19,20,21] ?_
   refine gk_ret env ?_
   rw[he,limF,if_pos (by omega),if_pos (by rw[ho];simpa using c2)]at hR
   rw[hR];rfl
  ·try simp only[bb,toN]at c2
   refine gk_region env false [] [2,4,6,7,19,20,21] ?_
   refine gk_region env false [] [2,4,6,7,19,20,21] ?_
   refine gk_round ((i+1,a+numV ((fldV l k f).getD i default))) ?_
   refine ⟨by simp only;omega,by simp only;omega,by simp only;omega,he.trans ?_⟩
   rw[limF,if_pos (by omega),if_neg (by rw[ho];cases sm<;>simpa using c2)]
 ·try simp only[toN]at c1
  refine gk_region env false [] [4] ?_
  refine gk_ret env ?_
  rw[he,limF,if_neg (by omega)]at hR
  rw[hR];simp[tupG]
def metV (d:Dm) (l:List Pn):Bool:=
 if d.op=0 then kindV l d.doc else if d.op=1 then isV l d.doc d.field d.text else if d.op=2 then limV l d.doc d.field d.lo d.hi false else if d.op=3 then sameV l d.doc d.field d.other d.second
 else if d.op=4 then limV l d.doc d.field d.lo d.hi true else false
theorem inv_met0:Inv Tryz.prog 136 "allonge/require.met" 196:=fun x args w=>by kernel_rfl
theorem inv_met1:Inv Tryz.prog 138 "allonge/require.met" 204:=fun x args w=>by kernel_rfl
theorem inv_met3:Inv Tryz.prog 140 "allonge/require.met" 214:=fun x args w=>by kernel_rfl
theorem inv_met2:Inv Tryz.prog 142 "allonge/require.met" 219:=fun x args w=>by kernel_rfl
theorem met_ok (d:Dm) (l:List Pn) (hs:Short l):GC Tryz.prog 25 [dmG d,rowP l] (bG (metV d l)):=by
 refine gc_of_gk Tryz.func25 ?_
 refine gk_region env false [] [1,2,4] ?_
 rcases ops d.op with h|h|h|h|h|h
 ·refine gk_region env false [.call (clause_need d h)] [1,4,5,6] ?_
  refine gk_region env false [.inv inv_met0 (needs_met d.doc l hs)] [4] ?_
  refine gk_ret env ?_
  simp[metV,h,tupG]
 ·refine gk_region env false [.call (clause_is d h)] [1,4,5,6] ?_
  refine gk_region env false [.inv inv_met1 (reads_met d.doc d.field d.text l hs)] [4] ?_
  refine gk_ret env ?_
  simp[metV,h,tupG]
 ·refine gk_region env false [.call (clause_within d h)] [1,4,5,6] ?_
  refine gk_region env false [.inv inv_met2 (limits_met d.doc d.field d.lo d.hi false l hs)] [4] ?_
  refine gk_ret env ?_
  simp[metV,h,tupG]
 ·refine gk_region env false [.call (clause_same d h)] [1,4,5,6] ?_
  refine gk_region env false [.inv inv_met3 (agrees_met d.doc d.field d.other d.second l hs)] [4] ?_
  refine gk_ret env ?_
  simp[metV,h,tupG]
 ·refine gk_region env false [.call (clause_sum d h)] [1,4,5,6] ?_
  refine gk_region env false [.inv inv_met2 (limits_met d.doc d.field d.lo d.hi true l hs)] [4] ?_
  refine gk_ret env ?_
  simp[metV,h,tupG]
 ·refine gk_region env false [.call (clause_none d h)] [1,4,5,6] ?_
  refine gk_region env false [.no] [4] ?_
  refine gk_ret env ?_
  simp[metV,h,tupG]
end Go.Gh
namespace Go.Gh
open Go Go.Proofs
set_option maxRecDepth 1000000
set_option maxHeartbeats 2000000
set_option linter.unusedSimpArgs false
set_option linter.unusedVariables false
set_option linter.unnecessarySimpa false
open Go.RowKit
def inC (n:Int):List D:=[.sc (.int .i64 n)]
abbrev rowI (l:List Int):G:= .d (.row default inC l)
structure Pl where
 doc:Int
 field:Int
deriving DecidableEq
instance :Inhabited Pl:=⟨⟨0,0⟩⟩
theorem ext_getD {α:Type} [Inhabited α] {a b:List α} (h:a.length=b.length) (k:∀j,j<a.length→a.getD j default=b.getD j default):a=b:=by
 refine List.ext_getElem h fun j h1 h2=> ?_
 have:=k j h1
 simpa [List.getD_eq_getElem?_getD,h1,h2]using this
def failF (l:List Dm) (docs:List Pn) (i:Nat) (acc:List Int):List Int:=
 if i<l.length then failF l docs (i+1) (if metV (l.getD i default) docs then acc else acc++ [(i:Int)])else acc
termination_by l.length-i
def failV (l:List Dm) (docs:List Pn):List Int:=failF l docs 0 []
theorem failing_ok (l:List Dm) (hl:l.length≤1000) (docs:List Pn) (hs:Short docs):GC Tryz.prog 26 [rowD l,rowP docs] (rowI (failV l docs)):=by
 refine gc_of_gk Tryz.func26 ?_
 refine gk_region env false [] [0,1,4] ?_
 refine gk_region env false [] [0,1,4,5] ?_
 refine gk_nil 5 3 1 (default:Int) inC (by rfl) (by rfl) ?_
 refine gk_region env false [] [1,4,5,8,9,10] ?_
 refine gk_loop (α:=Nat×List Int) (fun x=>x.1≤l.length∧x.2.length≤x.1∧failF l docs 0 []=failF l docs x.1 x.2) (fun x=>[(10,iG x.1),(5,.sl 0 1 0 x.2.length)]) (fun x=>[(0,some (.row 3 1 default inC x.2 0))]) (fun x=>l.length-x.1) (0,[]) ⟨by simp,by simp,rfl⟩ ?_
 rintro ⟨i,acc⟩ ⟨hi,hj,he⟩
 dsimp only at*
 refine gk_region env false [] [1,4,5,8,9,10,11] ?_
 refine gk_ifd (fun c1=> ?_) (fun c1=> ?_)
 ·try simp only[toN]at c1
  refine gk_region env false [] [1,4,5,6,7,8,9,10] ?_
  refine gk_region env false [.call (met_ok (l.getD i default) docs hs)] [1,4,5,6,8,9,10,18] ?_
  refine gk_if (fun c2=> ?_) (fun c2=> ?_)
  ·try simp only[bb,toN]at c2
   refine gk_region env false [.el default inC [(i:Int)],.el default inC (acc++ [(i:Int)])] [1,4,5,8,9,10] ?_ (hp:=(by simp only[AllP,Int.toNat_natCast];repeat' first|exact trivial|exact EntL.refl _|exact BEntL.refl _|exact rfl|omega|apply And.intro|intro _|(simp[rowL];done)|(simp only[List.length_append,List.length_cons,List.length_nil];omega)|(simp[*];done)))
   refine gk_region env false [] [1,4,5,8,9,10] ?_
   refine gk_round ((i+1,acc++ [(i:Int)])) ?_
   refine ⟨by simp only;omega,by simp only[List.length_append,List.length_cons,List.length_nil];omega,he.trans ?_⟩
   rw[failF,if_pos (by omega),if_neg (by simpa using c2)]
  ·try simp only[bb,toN]at c2
   refine gk_region env false [] [1,4,5,8,9,10] ?_
   refine gk_round ((i+1,acc)) ?_
   refine ⟨by simp only;omega,by simp only;omega,he.trans ?_⟩
   rw[failF,if_pos (by omega),if_pos (by simpa using c2)]
 ·try simp only[toN]at c1
  refine gk_region env false [] [4] ?_
  refine gk_ret env ?_
  rw[failV,he,failF,if_neg (by omega)];rfl
def dmVs (d:Dm):List Value:=[.int .i64 d.op,.string d.doc,.string d.field,.string d.other,.string d.second,.string d.text,.int .i64 d.lo,.int .i64 d.hi]
def dmEq (a b:Dm):Bool:=decide (a.op=b.op)&&(decide (a.doc=b.doc)&&(decide (a.field=b.field)&&(decide (a.other=b.other)&&(decide (a.second=b.second)&&(decide (a.text=b.text)&&(decide (a.lo=b.lo)&&(decide (a.hi=b.hi)&&true)))))))
theorem dmEq_eq (a b:Dm):dmEq a b=decide (a=b):=by
 cases a;cases b
 simp[dmEq,Dm.mk.injEq]
theorem eq_demand (a b:Dm):EqC Tryz.prog 37 (dmVs a) (dmVs b) (dmEq a b):=
 EqC.of tab_ok rfl rfl (by kernel_rfl) (by kernel_rfl) (.int tab_ok rfl rfl rfl rfl (.str tab_ok rfl rfl rfl rfl (.str tab_ok rfl rfl rfl rfl (.str tab_ok rfl rfl rfl rfl (.str tab_ok rfl rfl rfl rfl (.str tab_ok rfl rfl rfl rfl (.int tab_ok rfl rfl rfl rfl (.int tab_ok rfl rfl rfl rfl .nil))))))))
theorem sameDemands_ok (a b:List Dm) (ha:a.length≤9223372036854775807) (hb:b.length≤9223372036854775807):GC Tryz.prog 16 [rowD a,rowD b] (bG (decide (a=b))):=by
 refine gc_of_gk Tryz.func16 ?_
 refine gk_region env false [] [0,1,4] ?_
 refine gk_region env false [] [0,1,4,10] ?_
 refine gk_ifn (fun c1=> ?_) (fun c1=> ?_)
 ·try simp only[toN]at c1
  refine gk_region env false [] [0,1,4] ?_
  refine gk_ret env ?_
  have e:¬a=b:=fun h=>c1 (by rw[h])
  simp[e,tupG]
 ·try simp only[toN]at c1
  refine gk_region env false [] [0,1,4,5] ?_
  refine gk_loop (α:=Nat) (fun i=>i≤a.length∧∀j,j<i→a.getD j default=b.getD j default) (fun i=>[(5,iG i)]) (fun _=>[]) (fun i=>a.length-i) 0 ⟨by omega,fun j h=>by omega⟩ ?_
  rintro i ⟨hi,he⟩
  refine gk_region env false [] [0,1,4,5,14] ?_
  refine gk_ifd (fun c2=> ?_) (fun c2=> ?_)
  ·try simp only[toN]at c2
   refine gk_region env false [.eq (eq_demand (a.getD i default) (b.getD i default))] [0,1,4,5,25] ?_
   refine gk_if (fun c3=> ?_) (fun c3=> ?_)
   ·try simp only[bb,toN]at c3
    refine gk_region env false [] [0,1,4,5] ?_
    refine gk_ret env ?_
    have e:¬a=b:=fun h=>by subst h;simp[dmEq_eq]at c3
    simp[e,tupG]
   ·try simp only[bb,toN]at c3
    refine gk_region env false [] [0,1,4,5] ?_
    refine gk_round (i+1) ?_
    refine ⟨by omega,fun j hj=> ?_⟩
    by_cases e:j=i
    ·subst e;rw[dmEq_eq]at c3;exact of_decide_eq_true (by simpa using c3)
    ·exact he j (by omega)
  ·try simp only[toN]at c2
   refine gk_region env false [] [4] ?_
   refine gk_ret env ?_
   have e:a=b:=ext_getD (by omega) fun j h=>he j (by omega)
   simp[e,tupG]
def few33Bad (d:Dm):Bool:=((((decide ((500:Int)<d.text.size)||decide ((60:Int)<d.doc.size))||decide ((60:Int)<d.field.size))||decide ((60:Int)<d.other.size))||decide ((60:Int)<d.second.size))
def few33F (l:List Dm) (i:Nat):Bool:=if i<l.length∧i<40 then if few33Bad (l.getD i default)then false else few33F l (i+1)else decide ((l.length:Int)≤30)
termination_by l.length-i
def few33V (l:List Dm):Bool:=few33F l 0
theorem few33F_spec (l:List Dm):∀(n i:Nat),l.length-i=n→few33F l i=true→l.length≤30∧∀j,i≤j→j<l.length→few33Bad (l.getD j default)=false:=by
 intro n
 induction n with
 |zero=>intro i h k;rw[few33F,if_neg (by omega)]at k;exact ⟨by have:=of_decide_eq_true k;omega,fun j h1 h2=>by omega⟩
 |succ n ih=>
  intro i h k
  rw[few33F]at k
  split at k
  ·split at k
   ·cases k
   ·rename_i hb
    obtain ⟨h1,h2⟩:=ih (i+1) (by omega) k
    refine ⟨h1,fun j h3 h4=> ?_⟩
    by_cases e:j=i
    ·subst e;simpa using hb
    ·exact h2 j (by omega) h4
  ·have:=of_decide_eq_true k;omega
structure FewD (d:Dm):Prop where
 text:d.text.size≤500
 doc:d.doc.size≤60
 field:d.field.size≤60
 other:d.other.size≤60
 second:d.second.size≤60
theorem few33V_spec {l:List Dm} (h:few33V l=true):l.length≤30∧∀d,d∈l→FewD d:=by
 obtain ⟨h1,h2⟩:=few33F_spec l _ 0 rfl h
 refine ⟨h1,fun d hd=> ?_⟩
 obtain ⟨j,hj⟩:=List.getElem?_of_mem hd
 have:=h2 j (Nat.zero_le _) (List.getElem?_eq_some_iff.1 hj).1
 rw[List.getD_eq_getElem?_getD,hj]at this
 simp[few33Bad]at this
 obtain ⟨⟨⟨⟨a,b⟩,c⟩,e⟩,f⟩:=this
 exact ⟨by omega,by omega,by omega,by omega,by omega⟩
theorem few33_ok (l:List Dm) (hl:l.length≤9223372036854775807):GC Tryz.prog 23 [rowD l] (bG (few33V l)):=by
 refine gc_of_gk Tryz.func23 ?_
 refine gk_region env false [] [0,2] ?_
 refine gk_region env false [] [0,2,3] ?_
 refine gk_loop (α:=Nat) (fun i=>i≤l.length∧i≤40∧few33F l 0=few33F l i) (fun i=>[(3,iG i)]) (fun _=>[]) (fun i=>l.length-i) 0 ⟨by omega,by omega,rfl⟩ ?_
 rintro i ⟨hi,hj,he⟩
 refine gk_region env false [] [0,2,3,11] ?_
 refine gk_if (fun c1=> ?_) (fun c1=> ?_)
 ·try simp only[bb,toN]at c1
  refine gk_region env false [] [0,2,3,56] ?_
  refine gk_if (fun c2=> ?_) (fun c2=> ?_)
  ·try simp only[bb,toN]at c2
   refine gk_region env false [] [0,2,3] ?_
   refine gk_ret env ?_
   rw[few33V,he,few33F,if_pos (by omega),if_pos (by simpa [few33Bad,or_assoc]using c2)];rfl
  ·try simp only[bb,toN]at c2
   refine gk_region env false [] [0,2,3] ?_
   refine gk_round (i+1) ?_
   refine ⟨by omega,by omega,he.trans ?_⟩
   rw[few33F,if_pos (by omega),if_neg (by simpa [few33Bad,and_assoc]using c2)]
 ·try simp only[bb,toN]at c1
  refine gk_region env false [] [2] ?_
  refine gk_ret env ?_
  rw[few33V,he,few33F,if_neg (by omega)];rfl
end Go.Gh
namespace Go.Gh
open Go Go.Proofs
set_option maxRecDepth 1000000
set_option maxHeartbeats 2000000
set_option linter.unusedSimpArgs false
set_option linter.unusedVariables false
set_option linter.unnecessarySimpa false
open Go.RowKit
structure Cty where
 name:ByteArray
 ord:Int
 cur:Int
 rest:List Int
 feasts:List Int
 shut:List Int
instance :Inhabited Cty:=⟨⟨⟨#[]⟩,0,0,[],[],[]⟩⟩
def ctC (c:Cty):List D:=[.sc (.string c.name),.sc (.int .i64 c.ord),.sc (.int .i64 c.cur),.row default inC c.rest,.row default inC c.feasts,.row default inC c.shut]
abbrev ctG (c:Cty):G:= .agg [sG c.name,iG c.ord,iG c.cur,rowI c.rest,rowI c.feasts,rowI c.shut]
structure Frm where
 name:ByteArray
 city:Int
 group:Int
instance :Inhabited Frm:=⟨⟨⟨#[]⟩,0,0⟩⟩
def fmC (f:Frm):List D:=[.sc (.string f.name),.sc (.int .i64 f.city),.sc (.int .i64 f.group)]
structure Us where
 fr:Int
 dst:Int
 days:Int
instance :Inhabited Us:=⟨⟨0,0,0⟩⟩
def usC (u:Us):List D:=[.sc (.int .i64 u.fr),.sc (.int .i64 u.dst),.sc (.int .i64 u.days)]
structure Rt where
 fr:Int
 dst:Int
 num:Int
 den:Int
 since:Int
instance :Inhabited Rt:=⟨⟨0,0,0,0,0⟩⟩
def rtC (x:Rt):List D:=[.sc (.int .i64 x.fr),.sc (.int .i64 x.dst),.sc (.int .i64 x.num),.sc (.int .i64 x.den),.sc (.int .i64 x.since)]
structure Ht where
 ord:Int
 fr:Int
 dst:Int
instance :Inhabited Ht:=⟨⟨0,0,0⟩⟩
def htC (x:Ht):List D:=[.sc (.int .i64 x.ord),.sc (.int .i64 x.fr),.sc (.int .i64 x.dst)]
structure Cho where
 ask:Int
 by_:Int
 whole:Bool
instance :Inhabited Cho:=⟨⟨0,0,false⟩⟩
def choC (c:Cho):List D:=[.sc (.int .i64 c.ask),.sc (.int .i64 c.by_),.sc (.bool c.whole)]
structure Rul where
 ask:Int
 op:Int
 n:Int
 args:Value
instance :Inhabited Rul:=⟨⟨0,0,0,.slice none 0 0⟩⟩
def rulC (x:Rul):List D:=[.sc (.int .i64 x.ask),.sc (.int .i64 x.op),.sc (.int .i64 x.n),.sc x.args]
structure Od where
 name:ByteArray
 acc:Bool
 choices:List Cho
 rules:List Rul
instance :Inhabited Od:=⟨⟨⟨#[]⟩,false,[],[]⟩⟩
def odC (o:Od):List D:=[.sc (.string o.name),.sc (.bool o.acc),.row default choC o.choices,.row default rulC o.rules]
abbrev odG (o:Od):G:= .agg [sG o.name,bG o.acc,.d (.row default choC o.choices),.d (.row default rulC o.rules)]
structure Rlm where
 currencies:List ByteArray
 cities:List Cty
 groups:List Int
 firms:List Frm
 orders:List Od
 usances:List Us
 rates:List Rt
 halts:List Ht
instance :Inhabited Rlm:=⟨⟨[],[],[],[],[],[],[],[]⟩⟩
def rlC (r:Rlm):List D:=[rowSD r.currencies,.row default ctC r.cities,.row default inC r.groups,.row default fmC r.firms,.row default odC r.orders,.row default usC r.usances,.row default rtC r.rates,.row default htC r.halts]
abbrev rlG (r:Rlm):G:= .agg [rowS r.currencies,.d (.row default ctC r.cities),rowI r.groups,.d (.row default fmC r.firms),.d (.row default odC r.orders),.d (.row default usC r.usances),.d (.row default rtC r.rates),.d (.row default htC r.halts)]
def inV (i n:Int):Bool:=decide (0≤i)&&decide (i<n)
def riseBad (l:List Int) (lo hi:Int) (i:Nat):Bool:=(decide (l.getD i default<lo)||decide (hi<l.getD i default))||(decide ((0:Int)<i)&&decide (l.getD i default≤l.getD ((i:Int)-1).toNat default))
def riseF (l:List Int) (lo hi:Int) (i:Nat):Bool:=if i<l.length then if riseBad l lo hi i=true then false else riseF l lo hi (i+1)else true
termination_by l.length-i
def rnBad (s:ByteArray) (i:Nat):Bool:= !letter (byteAt s i)&&(decide ((i:Int)=0)||(!decide (byteAt s i=95)&& !digit (byteAt s i)))
def rnF (s:ByteArray) (i:Nat):Bool:=if i<s.size then if rnBad s i=true then false else rnF s (i+1)else true
termination_by s.size-i
def rnameV (s:ByteArray):Bool:=if s=⟨#[]⟩∨(20:Int)<s.size then false else rnF s 0
def namedE (l:List ByteArray) (i:Nat):Int:=if rnameV (l.getD i default)=false then 2 else if (l.take i).any (fun x=>decide (x=l.getD i default))then 5 else 0
def fitsF (l:List ByteArray) (fine:Nat→Bool) (i:Nat):Int:=if i<l.length then if namedE l i=0 then if fine i=true then fitsF l fine (i+1)else 1 else namedE l i else 0
termination_by l.length-i
def fitsE (l:List ByteArray) (most:Int) (fine:Nat→Bool):Int:=if most<l.length then 6 else fitsF l fine 0
def feastB (n:Int):Bool:=decide (n.tmod 100<1)||decide (31<n.tmod 100)
def feastF (l:List Int) (i:Nat):Bool:=if i<l.length then if feastB (l.getD i default)=true then false else feastF l (i+1)else true
termination_by l.length-i
def cityBad (r:Rlm) (c:Cty):Bool:=(((decide ((60:Int)<c.feasts.length)||decide ((200:Int)<c.shut.length))|| !inV c.ord r.orders.length)|| !inV c.cur r.currencies.length)
def cityV (r:Rlm) (c:Cty):Bool:=if feastF c.feasts 0=true then if cityBad r c=true then false else (riseF c.rest 0 6 0&&riseF c.feasts 101 1231 0)&&riseF c.shut 0 100000 0 else false
def choF (l:List Cho) (i:Nat):Bool:=if i<l.length then if inV (l.getD i default).by_ 5=true then choF l (i+1)else false else true
termination_by l.length-i
def orderV (o:Od):Bool:=if choF o.choices 0=true then riseF (o.choices.map fun c=>c.ask) 0 21 0&&riseF (o.rules.map fun x=>x.ask) 0 21 0 else false
def firmV (r:Rlm) (f:Frm):Bool:=inV f.city r.cities.length&&inV f.group r.groups.length
def gradeF (l:List Int) (i:Nat):Bool:=if i<l.length then if inV (l.getD i default) 10=true then gradeF l (i+1)else false else true
termination_by l.length-i
def usBad (r:Rlm) (u:Us):Bool:=((!inV u.fr r.cities.length|| !inV u.dst r.cities.length)||decide (u.days<1))||decide (20000<u.days)
def usHit (u x:Us):Bool:=decide (x.fr=u.fr)&&decide (x.dst=u.dst)
def usI (l:List Us) (u:Us) (k:Nat):Bool:=if k<l.length then if usHit u (l.getD k default)=true then true else usI l u (k+1)else false
termination_by l.length-k
def usF (r:Rlm) (i:Nat):Int:=if i<r.usances.length then if usBad r (r.usances.getD i default)=true then 1 else if usI (r.usances.take i) (r.usances.getD i default) 0=true then 5 else usF r (i+1)else 0
termination_by r.usances.length-i
def usE (r:Rlm):Int:=if (100:Int)<r.usances.length then 6 else usF r 0
def rtBad (r:Rlm) (x:Rt):Bool:=(((((!inV x.fr r.currencies.length|| !inV x.dst r.currencies.length)||decide (x.fr=x.dst))|| !inV (x.num-1) 1073741824)|| !inV (x.den-1) 1073741824)|| !inV x.since 100001)
def rtF (r:Rlm) (i:Nat):Bool:=if i<r.rates.length then if rtBad r (r.rates.getD i default)=true then false else rtF r (i+1)else true
termination_by r.rates.length-i
def htBad (r:Rlm) (x:Ht):Bool:=(((!inV x.ord r.orders.length||decide (x.fr<0))||decide (x.dst<x.fr))||decide (100000<x.dst))
def htF (r:Rlm) (i:Nat):Bool:=if i<r.halts.length then if htBad r (r.halts.getD i default)=true then false else htF r (i+1)else true
termination_by r.halts.length-i
def restE (r:Rlm):Int:=if (100:Int)<r.rates.length then 6 else if rtF r 0=true then if (20:Int)<r.halts.length then 6 else if htF r 0=true then 0 else 1 else 1
def cityN (r:Rlm):List ByteArray:=r.cities.map fun c=>c.name
def firmN (r:Rlm):List ByteArray:=r.firms.map fun c=>c.name
def orderN (r:Rlm):List ByteArray:=r.orders.map fun c=>c.name
def orE (a b:Int):Int:=if a=0 then b else a
def realmE (r:Rlm):Int:=orE (fitsE r.currencies 8 fun _=>true) (orE (fitsE (cityN r) 40 fun i=>cityV r (r.cities.getD i default))
 (if (20:Int)<r.groups.length then 6 else if gradeF r.groups 0=true then orE (fitsE (firmN r) 200 fun i=>firmV r (r.firms.getD i default)) (orE (fitsE (orderN r) 20 fun i=>orderV (r.orders.getD i default)) (orE (usE r) (restE r)))else 1))
structure FitC (c:Cty):Prop where
 name:c.name.size≤9223372036854775807
 rest:c.rest.length≤9223372036854775807
 feasts:c.feasts.length≤9223372036854775807
 shut:c.shut.length≤9223372036854775807
structure FitR (r:Rlm):Prop where
 cur:r.currencies.length≤1000
 curS:∀s,s∈r.currencies→s.size≤9223372036854775807
 cities:r.cities.length≤1000
 city:∀c,c∈r.cities→FitC c
 groups:r.groups.length≤1000
 firms:r.firms.length≤1000
 firm:∀c,c∈r.firms→c.name.size≤9223372036854775807
 orders:r.orders.length≤1000
 order:∀o,o∈r.orders→o.name.size≤9223372036854775807∧o.choices.length≤1000∧o.rules.length≤1000
 usances:r.usances.length≤1000
 rates:r.rates.length≤1000
 rate:∀x,x∈r.rates→In64 x.num∧In64 x.den
 halts:r.halts.length≤1000
theorem mem_at {α:Type} [Inhabited α] {l:List α} {p:α→Prop} (h:∀x,x∈l→p x) {i:Nat} (hi:i<l.length):p (l.getD i default):=h _ (getD_mem hi)
theorem take_map {α β:Type} [Inhabited α] [Inhabited β] {l:List α} {f:α→β} {k:Nat} (h:k<l.length):(l.take (k+1)).map f=(l.take k).map f++ [f (l.getD k default)]:=by
 rw[take_getD h,List.map_append];rfl
theorem getD_take' {α:Type} [Inhabited α] {l:List α} {i:Nat} (h:i≤l.length):(l.take i).length=i:=by rw[List.length_take];omega
theorem in_ok (i n:Int):GC Tryz.prog 66 [iG i,iG n] (bG (inV i n)):=by
 refine gc_of_gk Tryz.func66 ?_
 refine gk_region env false [] [0,1,4] ?_
 refine gk_region env false [] [4] ?_
 refine gk_ret env ?_
 simp[inV,tupG]
theorem rising_ok (l:List Int) (hl:l.length≤9223372036854775807) (lo hi:Int):GC Tryz.prog 100 [rowI l,iG lo,iG hi] (bG (riseF l lo hi 0)):=by
 refine gc_of_gk Tryz.func100 ?_
 refine gk_region env false [] [0,1,2,6] ?_
 refine gk_region env false [] [0,1,2,6,9,10,11] ?_
 refine gk_loop (α:=Nat) (fun i=>i≤l.length∧riseF l lo hi 0=riseF l lo hi i) (fun i=>[(11,iG i)]) (fun _=>[]) (fun i=>l.length-i) 0 ⟨by omega,rfl⟩ ?_
 rintro i ⟨hj,he⟩
 refine gk_region env false [] [0,1,2,6,9,10,11,12] ?_
 refine gk_ifd (fun c1=> ?_) (fun c1=> ?_)
 ·try simp only[toN]at c1
  refine gk_region env false [] [0,1,2,6,7,8,9,10,11] ?_
  refine gk_region env false [] [0,1,2,6,9,10,11,36] ?_
  refine gk_if (fun c2=> ?_) (fun c2=> ?_)
  ·try simp only[bb,toN]at c2
   refine gk_region env false [] [0,1,2,6,9,10,11] ?_
   refine gk_ret env ?_
   rw[he,riseF,if_pos (by omega),if_pos (by simp[riseBad];simp at c2;grind)];rfl
  ·try simp only[bb,toN]at c2
   refine gk_region env false [] [0,1,2,6,9,10,11] ?_
   refine gk_round (i+1) ?_
   refine ⟨by omega,he.trans ?_⟩
   rw[riseF,if_pos (by omega),if_neg (by simp[riseBad];simp at c2;grind)]
 ·try simp only[toN]at c1
  refine gk_region env false [] [6] ?_
  refine gk_ret env ?_
  rw[he,riseF,if_neg (by omega)];rfl
def byC (c:UInt8):List D:=[.sc (.int .u8 (c.toNat:Int))]
theorem byC_row (s:ByteArray):rowL byC (bs s)=byteL s:=rfl
theorem isName_ok (s:ByteArray) (hs:s.size≤9223372036854775807):GC Tryz.prog 130 [sG s] (bG (rnameV s)):=by
 have hbl:=bs_size s
 refine gc_of_gk Tryz.func130 ?_
 refine gk_region env false [] [0,2] ?_
 refine gk_region env false [] [0,2,12] ?_
 refine gk_if (fun c1=> ?_) (fun c1=> ?_)
 ·try simp only[bb,toN]at c1
  refine gk_region env false [] [0,2] ?_
  refine gk_ret env ?_
  rw[rnameV,if_pos (by simpa using c1)];rfl
 ·try simp only[bb,toN]at c1
  refine gk_region env false [.el (0:UInt8) byC (bs s)] [2,14,15,16] ?_ (hp:=(by simp only[AllP];exact byC_row s))
  refine gk_loop (α:=Nat) (fun i=>i≤s.size∧rnF s 0=rnF s i) (fun i=>[(16,iG i)]) (fun _=>[]) (fun i=>s.size-i) 0 ⟨by omega,rfl⟩ ?_
  rintro i ⟨hi,he⟩
  have hby:(((bs s).getD i 0).toNat:Int)=byteAt s i:=rfl
  refine gk_region env false [] [2,14,15,16,17] ?_
  refine gk_ifd (fun c2=> ?_) (fun c2=> ?_)
  ·try simp only[toN]at c2
   refine gk_region env false [] [2,3,4,14,15,16] ?_
   refine gk_region env false [] [2,3,4,5,14,15,16] ?_
   refine gk_region env false [] [2,14,15,16,52] ?_
   refine gk_if (fun c3=> ?_) (fun c3=> ?_)
   ·try simp only[bb,toN]at c3
    refine gk_region env false [] [2,14,15,16] ?_
    refine gk_ret env ?_
    simp only[hby]at c3
    rw[rnameV,if_neg (by simpa using c1),he,rnF,if_pos (by omega),if_pos (by simp[rnBad,letter,digit];simp at c3;grind)];rfl
   ·try simp only[bb,toN]at c3
    refine gk_region env false [] [2,14,15,16] ?_
    refine gk_round (i+1) ?_
    refine ⟨by omega,he.trans ?_⟩
    simp only[hby]at c3
    rw[rnF,if_pos (by omega),if_neg (by simp[rnBad,letter,digit];simp at c3;grind)]
  ·try simp only[toN]at c2
   refine gk_region env false [] [2] ?_
   refine gk_ret env ?_
   rw[rnameV,if_neg (by simpa using c1),he,rnF,if_neg (by omega)];rfl
theorem named_ok (l:List ByteArray) (hl:l.length≤9223372036854775807) (hs:∀s,s∈l→s.size≤9223372036854775807) (i:Nat) (hi:i<l.length):GC Tryz.prog 99 [rowS l,iG i] (iG (namedE l i)):=by
 refine gc_of_gk Tryz.func99 ?_
 refine gk_region env false [] [0,1,4] ?_
 refine gk_region env false [.call (isName_ok (l.getD i default) (hs _ (getD_mem hi)))] [0,1,4,10] ?_
 refine gk_if (fun c1=> ?_) (fun c1=> ?_)
 ·try simp only[bb,toN]at c1
  refine gk_region env false [] [0,1,4] ?_
  refine gk_ret env ?_
  rw[namedE,if_pos (by simpa using c1)];rfl
 ·try simp only[bb,toN]at c1
  refine gk_region env false [.call (contains_ok (l.take i) (by rw[List.length_take];omega) (l.getD i default))] [4,18] ?_ (hp:=(by simp only[AllP,bb,toN,loI,hiI];repeat' first|exact trivial|exact EntL.refl _|exact BEntL.refl _|exact rfl|omega|apply And.intro|intro _))
  refine gk_if (fun c2=> ?_) (fun c2=> ?_)
  ·try simp only[bb,toN]at c2
   refine gk_region env false [] [4] ?_
   refine gk_ret env ?_
   rw[namedE,if_neg (by simpa using c1),if_pos c2];rfl
  ·try simp only[bb,toN]at c2
   refine gk_region env false [] [4] ?_
   refine gk_ret env ?_
   rw[namedE,if_neg (by simpa using c1),if_neg (by rw[c2];simp)];rfl
theorem rcheck1_ok (i:Int):GC Tryz.prog 63 [iG i] (bG true):=by
 refine gc_of_gk Tryz.func63 ?_
 refine gk_region env false [] [2] ?_
 refine gk_region env false [] [2] ?_
 refine gk_ret env ?_
 rfl
theorem city_ok (r:Rlm) (c:Cty) (hc:FitC c):GC Tryz.prog 65 [rlG r,ctG c] (bG (cityV r c)):=by
 obtain ⟨_,h2,h3,h4⟩:=hc
 refine gc_of_gk Tryz.func65 ?_
 refine gk_region env false [] [2,3,4] ?_
 refine gk_region env false [] [2,3,4,8,9,10] ?_
 refine gk_loop (α:=Nat) (fun i=>i≤c.feasts.length∧feastF c.feasts 0=feastF c.feasts i) (fun i=>[(10,iG i)]) (fun _=>[]) (fun i=>c.feasts.length-i) 0 ⟨by omega,rfl⟩ ?_
 rintro i ⟨hi,he⟩
 refine gk_region env false [] [2,3,4,8,9,10,11] ?_
 refine gk_ifd (fun c1=> ?_) (fun c1=> ?_)
 ·try simp only[toN]at c1
  refine gk_region env false [] [2,3,4,6,8,9,10] ?_
  refine gk_region env true [] [2,3,4,8,9,10,21] ?_
  refine gk_if (fun c2=> ?_) (fun c2=> ?_)
  ·try simp only[bb,toN]at c2
   refine gk_region env false [] [2,3,4,8,9,10] ?_
   refine gk_ret env ?_
   rw[cityV,if_neg (by rw[he,feastF,if_pos (by omega),if_pos (by simpa [feastB]using c2)];simp)];rfl
  ·try simp only[bb,toN]at c2
   refine gk_region env false [] [2,3,4,8,9,10] ?_
   refine gk_round (i+1) ?_
   refine ⟨by omega,he.trans ?_⟩
   rw[feastF,if_pos (by omega),if_neg (by simpa [feastB]using c2)]
 ·try simp only[toN]at c1
  refine gk_region env false [.call (in_ok c.ord r.orders.length),.call (in_ok c.cur r.currencies.length)] [3,4,50] ?_
  refine gk_if (fun c3=> ?_) (fun c3=> ?_)
  ·try simp only[bb,toN]at c3
   refine gk_region env false [] [3,4] ?_
   refine gk_ret env ?_
   rw[cityV,if_pos (by rw[he,feastF,if_neg (by omega)]),if_pos (by simpa [cityBad]using c3)];rfl
  ·try simp only[bb,toN]at c3
   refine gk_region env false [.call (rising_ok c.rest h2 0 6),.call (rising_ok c.feasts h3 101 1231),.call (rising_ok c.shut h4 0 100000)] [4] ?_
   refine gk_ret env ?_
   rw[cityV,if_pos (by rw[he,feastF,if_neg (by omega)]),if_neg (by simpa [cityBad]using c3)]
   cases riseF c.rest 0 6 0<;>cases riseF c.feasts 101 1231 0<;>rfl
theorem order_ok (o:Od) (h1:o.choices.length≤1000) (h2:o.rules.length≤1000):GC Tryz.prog 69 [odG o] (bG (orderV o)):=by
 refine gc_of_gk Tryz.func69 ?_
 refine gk_region env false [] [1,2] ?_
 refine gk_region env false [] [1,2,3,4] ?_
 refine gk_nil 3 3 1 (default:Int) inC (by rfl) (by rfl) ?_
 refine gk_nil 4 3 1 (default:Int) inC (by rfl) (by rfl) ?_
 refine gk_region env false [] [1,2,3,4,10,11,12] ?_
 refine gk_loop (α:=Nat) (fun i=>i≤o.choices.length∧choF o.choices 0=choF o.choices i) (fun i=>[(12,iG i),(3,.sl 1 1 0 ((o.choices.take i).map fun c=>c.ask).length)]) (fun i=>[(1,some (.row 3 1 default inC ((o.choices.take i).map fun c=>c.ask) 0))]) (fun i=>o.choices.length-i) 0 ⟨by omega,rfl⟩ ?_
 rintro i ⟨hi,he⟩
 have hl:((o.choices.take i).map fun c=>c.ask).length=i:=by rw[List.length_map,getD_take' hi]
 refine gk_region env false [] [1,2,3,4,10,11,12,13] ?_
 refine gk_ifd (fun c1=> ?_) (fun c1=> ?_)
 ·try simp only[toN]at c1
  refine gk_region env false [] [1,2,3,4,6,10,11,12] ?_
  refine gk_region env false [.el default inC [(o.choices.getD i default).ask],.el default inC (((o.choices.take i).map fun c=>c.ask)++ [(o.choices.getD i default).ask])] [1,2,3,4,6,10,11,12] ?_ (hp:=(by simp only[AllP,Int.toNat_natCast];repeat' first|exact trivial|exact EntL.refl _|exact BEntL.refl _|exact rfl|omega|apply And.intro|intro _|(simp[rowL];done)|(simp only[List.length_append,List.length_cons,List.length_nil];omega)|(simp[*];done)))
  refine gk_region env false [.call (in_ok (o.choices.getD i default).by_ 5)] [1,2,3,4,10,11,12,24] ?_
  refine gk_if (fun c2=> ?_) (fun c2=> ?_)
  ·try simp only[bb,toN]at c2
   refine gk_region env false [] [1,2,3,4,10,11,12] ?_
   refine gk_ret env ?_
   rw[orderV,if_neg (by rw[he,choF,if_pos (by omega),if_neg (by simpa using c2)];simp)];rfl
  ·try simp only[bb,toN]at c2
   refine gk_region env false [] [1,2,3,4,10,11,12] ?_
   refine gk_round (i+1) ?_ (hp:=by simp[AllP,take_map (show i<o.choices.length by omega)])
   refine ⟨by omega,he.trans ?_⟩
   rw[choF,if_pos (by omega),if_pos (by simpa using c2)]
 ·try simp only[toN]at c1
  refine gk_region env false [] [2,3,4,27,28,29] ?_
  refine gk_loop (α:=Nat) (fun i=>i≤o.rules.length) (fun i=>[(29,iG i),(4,.sl 2 1 0 ((o.rules.take i).map fun c=>c.ask).length)]) (fun i=>[(2,some (.row 3 1 default inC ((o.rules.take i).map fun c=>c.ask) 0))]) (fun i=>o.rules.length-i) 0 (Nat.zero_le _) ?_
  rintro k hk
  have hlk:((o.rules.take k).map fun c=>c.ask).length=k:=by rw[List.length_map,getD_take' hk]
  refine gk_region env false [] [2,3,4,27,28,29,30] ?_
  refine gk_ifd (fun c3=> ?_) (fun c3=> ?_)
  ·try simp only[toN]at c3
   refine gk_region env false [] [2,3,4,8,27,28,29] ?_
   refine gk_region env false [.el default inC [(o.rules.getD k default).ask],.el default inC (((o.rules.take k).map fun c=>c.ask)++ [(o.rules.getD k default).ask])] [2,3,4,27,28,29] ?_ (hp:=(by simp only[AllP,Int.toNat_natCast];repeat' first|exact trivial|exact EntL.refl _|exact BEntL.refl _|exact rfl|omega|apply And.intro|intro _|(simp[rowL];done)|(simp only[List.length_append,List.length_cons,List.length_nil];omega)|(simp[*];done)))
   refine gk_region env false [] [2,3,4,27,28,29] ?_
   refine gk_round (k+1) ?_ (hp:=by simp[AllP,take_map (show k<o.rules.length by omega)])
   omega
  ·try simp only[toN]at c3
   refine gk_row 1 ?_
   refine gk_row 2 ?_
   refine gk_region env false [.call (rising_ok ((o.choices.take i).map fun c=>c.ask) (by omega) 0 21),.call (rising_ok ((o.rules.take k).map fun c=>c.ask) (by omega) 0 21)] [2] ?_
   refine gk_ret env ?_
   rw[orderV,if_pos (by rw[he,choF,if_neg (by omega)]),List.take_of_length_le (show o.choices.length≤i by omega),List.take_of_length_le (show o.rules.length≤k by omega)]
   cases riseF (o.choices.map fun c=>c.ask) 0 21 0<;>rfl
end Go.Gh
namespace Go.Gh
open Go Go.Proofs
set_option maxRecDepth 1000000
set_option maxHeartbeats 2000000
set_option linter.unusedSimpArgs false
set_option linter.unusedVariables false
set_option linter.unnecessarySimpa false
open Go.RowKit
theorem rcheck2_ok (r:Rlm) (hr:FitR r) (i:Nat) (hi:i<r.cities.length):GC Tryz.prog 64 [iG i,.ep (rlC r)] (bG (cityV r (r.cities.getD i default))):=by
 have h1:=hr.cities
 refine gc_of_gk Tryz.func64 ?_
 refine gk_region env false [] [0,1,3] ?_
 refine gk_region env false [.call (city_ok r (r.cities.getD i default) (hr.city _ (getD_mem hi)))] [3] ?_
 refine gk_ret env ?_
 rfl
theorem rcheck3_ok (r:Rlm) (hr:FitR r) (i:Nat) (hi:i<r.firms.length):GC Tryz.prog 67 [iG i,.ep (rlC r)] (bG (firmV r (r.firms.getD i default))):=by
 have h1:=hr.firms
 have h2:=hr.cities
 have h3:=hr.groups
 refine gc_of_gk Tryz.func67 ?_
 refine gk_region env false [] [0,1,3] ?_
 refine gk_region env false [.call (in_ok (r.firms.getD i default).city r.cities.length),.call (in_ok (r.firms.getD i default).group r.groups.length)] [3] ?_
 refine gk_ret env ?_
 unfold firmV
 cases inV (r.firms.getD i default).city r.cities.length<;>rfl
theorem rcheck4_ok (r:Rlm) (hr:FitR r) (i:Nat) (hi:i<r.orders.length):GC Tryz.prog 68 [iG i,.ep (rlC r)] (bG (orderV (r.orders.getD i default))):=by
 have h1:=hr.orders
 refine gc_of_gk Tryz.func68 ?_
 refine gk_region env false [] [0,1,3] ?_
 refine gk_region env false [.call (order_ok (r.orders.getD i default) (hr.order _ (getD_mem hi)).2.1 (hr.order _ (getD_mem hi)).2.2)] [3] ?_
 refine gk_ret env ?_
 rfl
theorem fits1_ok (l:List ByteArray) (hl:l.length≤1000) (hs:∀s,s∈l→s.size≤9223372036854775807) (n:Int):GC Tryz.prog 62 [rowS l,iG n,fG 63] (iG (fitsE l n (fun _=>true))):=by
 refine gc_of_gk Tryz.func62 ?_
 refine gk_region env false [] [0,1,2,6] ?_
 refine gk_region env false [] [0,2,6,12] ?_
 refine gk_ifd (fun c1=> ?_) (fun c1=> ?_)
 ·try simp only[toN]at c1
  refine gk_region env false [] [0,2,6] ?_
  refine gk_ret env ?_
  rw[fitsE,if_pos (by omega)];rfl
 ·try simp only[toN]at c1
  refine gk_region env false [] [0,2,6,14,15] ?_
  refine gk_loop (α:=Nat) (fun i=>i≤l.length∧fitsF l (fun _=>true) 0=fitsF l (fun _=>true) i) (fun i=>[(15,iG i)]) (fun _=>[]) (fun i=>l.length-i) 0 ⟨by omega,rfl⟩ ?_
  rintro i ⟨hi,he⟩
  refine gk_region env false [] [0,2,6,14,15,16] ?_
  refine gk_ifd (fun c2=> ?_) (fun c2=> ?_)
  ·try simp only[toN]at c2
   refine gk_region env false [] [0,2,6,7,14,15] ?_
   refine gk_region env false [.call (named_ok l (by omega) hs i (by omega))] [0,2,6,7,8,14,15] ?_
   refine gk_region env false [] [0,2,6,7,8,14,15,22] ?_
   refine gk_ifn (fun c3=> ?_) (fun c3=> ?_)
   ·try simp only[toN]at c3
    refine gk_region env false [] [0,2,6,7,14,15] ?_
    refine gk_ret env ?_
    rw[fitsE,if_neg (by omega),he,fitsF,if_pos (by omega),if_neg (by simpa using c3)];rfl
   ·try simp only[toN]at c3
    refine gk_region env false [.call (rcheck1_ok i)] [0,2,6,14,15,27] ?_
    refine gk_if (fun c4=> ?_) (fun c4=> ?_)
    ·try simp only[bb,toN]at c4
     refine gk_region env false [] [0,2,6,14,15] ?_
     refine gk_ret env ?_
     rw[fitsE,if_neg (by omega),he,fitsF,if_pos (by omega),if_pos (by simpa using c3),if_neg (by simpa using c4)];rfl
    ·try simp only[bb,toN]at c4
     refine gk_region env false [] [0,2,6,14,15] ?_
     refine gk_round (i+1) ?_
     refine ⟨by omega,he.trans ?_⟩
     rw[fitsF,if_pos (by omega),if_pos (by simpa using c3),if_pos (by simpa using c4)]
  ·try simp only[toN]at c2
   refine gk_region env false [] [6] ?_
   refine gk_ret env ?_
   rw[fitsE,if_neg (by omega),he,fitsF,if_neg (by omega)];rfl
theorem fits2_ok (l:List ByteArray) (hl:l.length≤1000) (hs:∀s,s∈l→s.size≤9223372036854775807) (n:Int) (r:Rlm) (hr:FitR r) (hb:l.length≤r.cities.length):GC Tryz.prog 62 [rowS l,iG n,.fn (.func 64) [] [.ep (rlC r)]] (iG (fitsE l n (fun i=>cityV r (r.cities.getD i default)))):=by
 refine gc_of_gk Tryz.func62 ?_
 refine gk_region env false [] [0,1,2,6] ?_
 refine gk_region env false [] [0,2,6,12] ?_
 refine gk_ifd (fun c1=> ?_) (fun c1=> ?_)
 ·try simp only[toN]at c1
  refine gk_region env false [] [0,2,6] ?_
  refine gk_ret env ?_
  rw[fitsE,if_pos (by omega)];rfl
 ·try simp only[toN]at c1
  refine gk_region env false [] [0,2,6,14,15] ?_
  refine gk_loop (α:=Nat) (fun i=>i≤l.length∧fitsF l (fun i=>cityV r (r.cities.getD i default)) 0=fitsF l (fun i=>cityV r (r.cities.getD i default)) i) (fun i=>[(15,iG i)]) (fun _=>[]) (fun i=>l.length-i) 0 ⟨by omega,rfl⟩ ?_ (hp:=by simp[AllP];rfl)
  rintro i ⟨hi,he⟩
  refine gk_region env false [] [0,2,6,14,15,16] ?_
  refine gk_ifd (fun c2=> ?_) (fun c2=> ?_)
  ·try simp only[toN]at c2
   refine gk_region env false [] [0,2,6,7,14,15] ?_
   refine gk_region env false [.call (named_ok l (by omega) hs i (by omega))] [0,2,6,7,8,14,15] ?_
   refine gk_region env false [] [0,2,6,7,8,14,15,22] ?_
   refine gk_ifn (fun c3=> ?_) (fun c3=> ?_)
   ·try simp only[toN]at c3
    refine gk_region env false [] [0,2,6,7,14,15] ?_
    refine gk_ret env ?_
    rw[fitsE,if_neg (by omega),he,fitsF,if_pos (by omega),if_neg (by simpa using c3)];rfl
   ·try simp only[toN]at c3
    refine gk_region env false [.call (rcheck2_ok r hr i (by omega))] [0,2,6,14,15,27] ?_
    refine gk_if (fun c4=> ?_) (fun c4=> ?_)
    ·try simp only[bb,toN]at c4
     refine gk_region env false [] [0,2,6,14,15] ?_
     refine gk_ret env ?_
     rw[fitsE,if_neg (by omega),he,fitsF,if_pos (by omega),if_pos (by simpa using c3),if_neg (by simpa using c4)];rfl
    ·try simp only[bb,toN]at c4
     refine gk_region env false [] [0,2,6,14,15] ?_
     refine gk_round (i+1) ?_ (hp:=by simp[AllP];rfl)
     refine ⟨by omega,he.trans ?_⟩
     rw[fitsF,if_pos (by omega),if_pos (by simpa using c3),if_pos (by simpa using c4)]
  ·try simp only[toN]at c2
   refine gk_region env false [] [6] ?_
   refine gk_ret env ?_
   rw[fitsE,if_neg (by omega),he,fitsF,if_neg (by omega)];rfl
theorem fits3_ok (l:List ByteArray) (hl:l.length≤1000) (hs:∀s,s∈l→s.size≤9223372036854775807) (n:Int) (r:Rlm) (hr:FitR r) (hb:l.length≤r.firms.length):GC Tryz.prog 62 [rowS l,iG n,.fn (.func 67) [] [.ep (rlC r)]] (iG (fitsE l n (fun i=>firmV r (r.firms.getD i default)))):=by
 refine gc_of_gk Tryz.func62 ?_
 refine gk_region env false [] [0,1,2,6] ?_
 refine gk_region env false [] [0,2,6,12] ?_
 refine gk_ifd (fun c1=> ?_) (fun c1=> ?_)
 ·try simp only[toN]at c1
  refine gk_region env false [] [0,2,6] ?_
  refine gk_ret env ?_
  rw[fitsE,if_pos (by omega)];rfl
 ·try simp only[toN]at c1
  refine gk_region env false [] [0,2,6,14,15] ?_
  refine gk_loop (α:=Nat) (fun i=>i≤l.length∧fitsF l (fun i=>firmV r (r.firms.getD i default)) 0=fitsF l (fun i=>firmV r (r.firms.getD i default)) i) (fun i=>[(15,iG i)]) (fun _=>[]) (fun i=>l.length-i) 0 ⟨by omega,rfl⟩ ?_ (hp:=by simp[AllP];rfl)
  rintro i ⟨hi,he⟩
  refine gk_region env false [] [0,2,6,14,15,16] ?_
  refine gk_ifd (fun c2=> ?_) (fun c2=> ?_)
  ·try simp only[toN]at c2
   refine gk_region env false [] [0,2,6,7,14,15] ?_
   refine gk_region env false [.call (named_ok l (by omega) hs i (by omega))] [0,2,6,7,8,14,15] ?_
   refine gk_region env false [] [0,2,6,7,8,14,15,22] ?_
   refine gk_ifn (fun c3=> ?_) (fun c3=> ?_)
   ·try simp only[toN]at c3
    refine gk_region env false [] [0,2,6,7,14,15] ?_
    refine gk_ret env ?_
    rw[fitsE,if_neg (by omega),he,fitsF,if_pos (by omega),if_neg (by simpa using c3)];rfl
   ·try simp only[toN]at c3
    refine gk_region env false [.call (rcheck3_ok r hr i (by omega))] [0,2,6,14,15,27] ?_
    refine gk_if (fun c4=> ?_) (fun c4=> ?_)
    ·try simp only[bb,toN]at c4
     refine gk_region env false [] [0,2,6,14,15] ?_
     refine gk_ret env ?_
     rw[fitsE,if_neg (by omega),he,fitsF,if_pos (by omega),if_pos (by simpa using c3),if_neg (by simpa using c4)];rfl
    ·try simp only[bb,toN]at c4
     refine gk_region env false [] [0,2,6,14,15] ?_
     refine gk_round (i+1) ?_ (hp:=by simp[AllP];rfl)
     refine ⟨by omega,he.trans ?_⟩
     rw[fitsF,if_pos (by omega),if_pos (by simpa using c3),if_pos (by simpa using c4)]
  ·try simp only[toN]at c2
   refine gk_region env false [] [6] ?_
   refine gk_ret env ?_
   rw[fitsE,if_neg (by omega),he,fitsF,if_neg (by omega)];rfl
theorem fits4_ok (l:List ByteArray) (hl:l.length≤1000) (hs:∀s,s∈l→s.size≤9223372036854775807) (n:Int) (r:Rlm) (hr:FitR r) (hb:l.length≤r.orders.length):GC Tryz.prog 62 [rowS l,iG n,.fn (.func 68) [] [.ep (rlC r)]] (iG (fitsE l n (fun i=>orderV (r.orders.getD i default)))):=by
 refine gc_of_gk Tryz.func62 ?_
 refine gk_region env false [] [0,1,2,6] ?_
 refine gk_region env false [] [0,2,6,12] ?_
 refine gk_ifd (fun c1=> ?_) (fun c1=> ?_)
 ·try simp only[toN]at c1
  refine gk_region env false [] [0,2,6] ?_
  refine gk_ret env ?_
  rw[fitsE,if_pos (by omega)];rfl
 ·try simp only[toN]at c1
  refine gk_region env false [] [0,2,6,14,15] ?_
  refine gk_loop (α:=Nat) (fun i=>i≤l.length∧fitsF l (fun i=>orderV (r.orders.getD i default)) 0=fitsF l (fun i=>orderV (r.orders.getD i default)) i) (fun i=>[(15,iG i)]) (fun _=>[]) (fun i=>l.length-i) 0 ⟨by omega,rfl⟩ ?_ (hp:=by simp[AllP];rfl)
  rintro i ⟨hi,he⟩
  refine gk_region env false [] [0,2,6,14,15,16] ?_
  refine gk_ifd (fun c2=> ?_) (fun c2=> ?_)
  ·try simp only[toN]at c2
   refine gk_region env false [] [0,2,6,7,14,15] ?_
   refine gk_region env false [.call (named_ok l (by omega) hs i (by omega))] [0,2,6,7,8,14,15] ?_
   refine gk_region env false [] [0,2,6,7,8,14,15,22] ?_
   refine gk_ifn (fun c3=> ?_) (fun c3=> ?_)
   ·try simp only[toN]at c3
    refine gk_region env false [] [0,2,6,7,14,15] ?_
    refine gk_ret env ?_
    rw[fitsE,if_neg (by omega),he,fitsF,if_pos (by omega),if_neg (by simpa using c3)];rfl
   ·try simp only[toN]at c3
    refine gk_region env false [.call (rcheck4_ok r hr i (by omega))] [0,2,6,14,15,27] ?_
    refine gk_if (fun c4=> ?_) (fun c4=> ?_)
    ·try simp only[bb,toN]at c4
     refine gk_region env false [] [0,2,6,14,15] ?_
     refine gk_ret env ?_
     rw[fitsE,if_neg (by omega),he,fitsF,if_pos (by omega),if_pos (by simpa using c3),if_neg (by simpa using c4)];rfl
    ·try simp only[bb,toN]at c4
     refine gk_region env false [] [0,2,6,14,15] ?_
     refine gk_round (i+1) ?_ (hp:=by simp[AllP];rfl)
     refine ⟨by omega,he.trans ?_⟩
     rw[fitsF,if_pos (by omega),if_pos (by simpa using c3),if_pos (by simpa using c4)]
  ·try simp only[toN]at c2
   refine gk_region env false [] [6] ?_
   refine gk_ret env ?_
   rw[fitsE,if_neg (by omega),he,fitsF,if_neg (by omega)];rfl
theorem usances_ok (r:Rlm) (hr:FitR r):GC Tryz.prog 70 [rlG r] (iG (usE r)):=by
 have h1:=hr.usances
 have h2:=hr.cities
 refine gc_of_gk Tryz.func70 ?_
 refine gk_region env false [] [1,2] ?_
 refine gk_region env false [] [1,2,10] ?_
 refine gk_ifd (fun c1=> ?_) (fun c1=> ?_)
 ·try simp only[toN]at c1
  refine gk_region env false [] [1,2] ?_
  refine gk_ret env ?_
  rw[usE,if_pos (by omega)];rfl
 ·try simp only[toN]at c1
  refine gk_region env false [] [1,2,12,13,14] ?_
  refine gk_loop (α:=Nat) (fun i=>i≤r.usances.length∧usF r 0=usF r i) (fun i=>[(14,iG i)]) (fun _=>[]) (fun i=>r.usances.length-i) 0 ⟨by omega,rfl⟩ ?_
  rintro i ⟨hi,he⟩
  refine gk_region env false [] [1,2,12,13,14,15] ?_
  refine gk_ifd (fun c2=> ?_) (fun c2=> ?_)
  ·try simp only[toN]at c2
   refine gk_region env false [] [1,2,3,4,12,13,14] ?_
   refine gk_region env false [.call (in_ok (r.usances.getD i default).fr r.cities.length),.call (in_ok (r.usances.getD i default).dst r.cities.length)] [1,2,3,4,12,13,14,44] ?_
   refine gk_if (fun c3=> ?_) (fun c3=> ?_)
   ·try simp only[bb,toN]at c3
    refine gk_region env false [] [1,2,3,4,12,13,14] ?_
    refine gk_ret env ?_
    rw[usE,if_neg (by omega),he,usF,if_pos (by omega),if_pos (by simpa [usBad]using c3)];rfl
   ·try simp only[bb,toN]at c3
    refine gk_region env false [] [1,2,4,12,13,14,48,49,50] ?_ (hp:=(by simp only[AllP,bb,toN,loI,hiI];repeat' first|exact trivial|exact EntL.refl _|exact BEntL.refl _|exact rfl|omega|apply And.intro|intro _))
    have hcut:cutL r.usances none (some (i:Int))=r.usances.take i:=by simp[cutL,loI,hiI]
    simp only[hcut]
    refine gk_loop (α:=Nat) (fun k=>k≤i∧usI (r.usances.take i) (r.usances.getD i default) 0=usI (r.usances.take i) (r.usances.getD i default) k) (fun k=>[(50,iG k)]) (fun _=>[]) (fun k=>i-k) 0 ⟨by omega,rfl⟩ ?_
    rintro k ⟨hk1,hk⟩
    have htl:(r.usances.take i).length=i:=getD_take' (by omega)
    refine gk_region env false [] [1,2,4,12,13,14,48,49,50,51] ?_
    refine gk_ifd (fun c4=> ?_) (fun c4=> ?_)
    ·try simp only[toN]at c4
     refine gk_region env false [] [1,2,4,6,12,13,14,48,49,50] ?_
     refine gk_region env false [] [1,2,4,12,13,14,48,49,50,65] ?_
     refine gk_if (fun c5=> ?_) (fun c5=> ?_)
     ·try simp only[bb,toN]at c5
      refine gk_region env false [] [1,2,4,12,13,14,48,49,50] ?_
      refine gk_ret env ?_
      rw[usE,if_neg (by omega),he,usF,if_pos (by omega),if_neg (by simpa [usBad]using c3),if_pos (by rw[hk,usI,if_pos (by omega),if_pos (by simpa [usHit]using c5)])];rfl
     ·try simp only[bb,toN]at c5
      refine gk_region env false [] [1,2,4,12,13,14,48,49,50] ?_
      refine gk_round (k+1) ?_
      refine ⟨by omega,hk.trans ?_⟩
      rw[usI,if_pos (by omega),if_neg (by simp[usHit];simp at c5;grind)]
    ·try simp only[toN]at c4
     refine gk_region env false [] [1,2,12,13,14] ?_
     refine gk_round (i+1) ?_
     refine ⟨by omega,he.trans ?_⟩
     rw[usF,if_pos (by omega),if_neg (by simpa [usBad]using c3),if_neg (by rw[hk,usI,if_neg (by omega)];simp)]
  ·try simp only[toN]at c2
   refine gk_region env false [] [2] ?_
   refine gk_ret env ?_
   rw[usE,if_neg (by omega),he,usF,if_neg (by omega)];rfl
theorem inV_less {n m:Int} (hn:In64 n) (hm:m≤9223372036854775806):inV (IntKind.i64.wrap (n-1)) m=inV (n-1) m:=by
 obtain ⟨h1,h2⟩:=hn
 by_cases h:n= -9223372036854775808
 ·subst h
  have e:IntKind.i64.wrap ((-9223372036854775808:Int)-1)=9223372036854775807:=by decide
  rw[e]
  unfold inV
  have a:decide ((9223372036854775807:Int)<m)=false:=decide_eq_false (by omega)
  have b:decide ((0:Int)≤-9223372036854775808-1)=false:=by decide
  rw[a,b];simp
 ·have e:IntKind.i64.wrap (n-1)=n-1:=by
   exact IntWalk.i64_in _ ⟨by omega,by omega⟩
  rw[e]
theorem rest_ok (r:Rlm) (hr:FitR r):GC Tryz.prog 71 [rlG r] (iG (restE r)):=by
 have h1:=hr.rates
 have h2:=hr.halts
 have h3:=hr.cur
 have h4:=hr.orders
 refine gc_of_gk Tryz.func71 ?_
 refine gk_region env false [] [1,2] ?_
 refine gk_region env false [] [1,2,10] ?_
 refine gk_ifd (fun c1=> ?_) (fun c1=> ?_)
 ·try simp only[toN]at c1
  refine gk_region env false [] [1,2] ?_
  refine gk_ret env ?_
  rw[restE,if_pos (by omega)];rfl
 ·try simp only[toN]at c1
  refine gk_region env false [] [1,2,12,13,14] ?_
  refine gk_loop (α:=Nat) (fun i=>i≤r.rates.length∧rtF r 0=rtF r i) (fun i=>[(14,iG i)]) (fun _=>[]) (fun i=>r.rates.length-i) 0 ⟨by omega,rfl⟩ ?_
  rintro i ⟨hi,he⟩
  have hw1:=fun h:i<r.rates.length=>inV_less (hr.rate _ (getD_mem h)).1 (m:=1073741824) (by decide)
  have hw2:=fun h:i<r.rates.length=>inV_less (hr.rate _ (getD_mem h)).2 (m:=1073741824) (by decide)
  refine gk_region env false [] [1,2,12,13,14,15] ?_
  refine gk_ifd (fun c2=> ?_) (fun c2=> ?_)
  ·try simp only[toN]at c2
   refine gk_region env false [] [1,2,4,12,13,14] ?_
   refine gk_region env true [.call (in_ok (r.rates.getD i default).fr r.currencies.length),.call (in_ok (r.rates.getD i default).dst r.currencies.length),.call (in_ok (IntKind.i64.wrap ((r.rates.getD i default).num-1)) 1073741824),.call (in_ok (IntKind.i64.wrap ((r.rates.getD i default).den-1)) 1073741824),.call (in_ok (r.rates.getD i default).since 100001)] [1,2,12,13,14,60] ?_
   simp only[hw1 (show i<r.rates.length by omega),hw2 (show i<r.rates.length by omega)]
   refine gk_if (fun c3=> ?_) (fun c3=> ?_)
   ·try simp only[bb,toN]at c3
    refine gk_region env false [] [1,2,12,13,14] ?_
    refine gk_ret env ?_
    rw[restE,if_neg (by omega),if_neg (by rw[he,rtF,if_pos (by omega),if_pos (by simpa [rtBad]using c3)];simp)];rfl
   ·try simp only[bb,toN]at c3
    refine gk_region env false [] [1,2,12,13,14] ?_
    refine gk_round (i+1) ?_
    refine ⟨by omega,he.trans ?_⟩
    rw[rtF,if_pos (by omega),if_neg (by simpa [rtBad]using c3)]
  ·try simp only[toN]at c2
   refine gk_region env false [] [1,2,65] ?_
   refine gk_ifd (fun c4=> ?_) (fun c4=> ?_)
   ·try simp only[toN]at c4
    refine gk_region env false [] [1,2] ?_
    refine gk_ret env ?_
    have e:rtF r 0=true:=by rw[he,rtF,if_neg (by omega)]
    rw[restE,if_neg (by omega),if_pos e,if_pos (by omega)];rfl
   ·try simp only[toN]at c4
    refine gk_region env false [] [1,2,67,68,69] ?_
    refine gk_loop (α:=Nat) (fun i=>i≤r.halts.length∧htF r 0=htF r i) (fun i=>[(69,iG i)]) (fun _=>[]) (fun i=>r.halts.length-i) 0 ⟨by omega,rfl⟩ ?_
    rintro k ⟨hk,hke⟩
    refine gk_region env false [] [1,2,67,68,69,70] ?_
    refine gk_ifd (fun c5=> ?_) (fun c5=> ?_)
    ·try simp only[toN]at c5
     refine gk_region env false [] [1,2,6,67,68,69] ?_
     refine gk_region env false [.call (in_ok (r.halts.getD k default).ord r.orders.length)] [1,2,67,68,69,96] ?_
     refine gk_if (fun c6=> ?_) (fun c6=> ?_)
     ·try simp only[bb,toN]at c6
      refine gk_region env false [] [1,2,67,68,69] ?_
      refine gk_ret env ?_
      have e:rtF r 0=true:=by rw[he,rtF,if_neg (by omega)]
      rw[restE,if_neg (by omega),if_pos e,if_neg (by omega),if_neg (by rw[hke,htF,if_pos (by omega),if_pos (by simpa [htBad]using c6)];simp)];rfl
     ·try simp only[bb,toN]at c6
      refine gk_region env false [] [1,2,67,68,69] ?_
      refine gk_round (k+1) ?_
      refine ⟨by omega,hke.trans ?_⟩
      rw[htF,if_pos (by omega),if_neg (by simpa [htBad]using c6)]
    ·try simp only[toN]at c5
     refine gk_region env false [] [2] ?_
     refine gk_ret env ?_
     have e:rtF r 0=true:=by rw[he,rtF,if_neg (by omega)]
     rw[restE,if_neg (by omega),if_pos e,if_neg (by omega),if_pos (by rw[hke,htF,if_neg (by omega)])];rfl
theorem names_ok (r:Rlm) (hr:FitR r):GC Tryz.prog 61 [rlG r] (.tup [rowS (cityN r),rowS (firmN r),rowS (orderN r)]):=by
 have h1:=hr.cities
 have h2:=hr.firms
 have h3:=hr.orders
 refine gc_of_gk Tryz.func61 ?_
 refine gk_region env false [] [1,2,3,4] ?_
 refine gk_nil 2 9 1 (default:ByteArray) strC (by rfl) (by rfl) ?_
 refine gk_nil 3 9 1 (default:ByteArray) strC (by rfl) (by rfl) ?_
 refine gk_nil 4 9 1 (default:ByteArray) strC (by rfl) (by rfl) ?_
 refine gk_region env false [] [1,2,3,4,12,13,14] ?_
 refine gk_loop (α:=Nat) (fun i=>i≤r.cities.length) (fun i=>[(14,iG i),(2,.sl 1 1 0 ((r.cities.take i).map fun c=>c.name).length)]) (fun i=>[(1,some (.row 9 1 default strC ((r.cities.take i).map fun c=>c.name) 0))]) (fun i=>r.cities.length-i) 0 (Nat.zero_le _) ?_
 rintro i hi
 have hl:((r.cities.take i).map fun c=>c.name).length=i:=by rw[List.length_map,getD_take' hi]
 refine gk_region env false [] [1,2,3,4,12,13,14,15] ?_
 refine gk_ifd (fun c1=> ?_) (fun c1=> ?_)
 ·try simp only[toN]at c1
  refine gk_region env false [] [1,2,3,4,6,12,13,14] ?_
  refine gk_region env false [.el default strC [(r.cities.getD i default).name],.el default strC (((r.cities.take i).map fun c=>c.name)++ [(r.cities.getD i default).name])] [1,2,3,4,12,13,14] ?_ (hp:=(by simp only[AllP,Int.toNat_natCast];repeat' first|exact trivial|exact EntL.refl _|exact BEntL.refl _|exact rfl|omega|apply And.intro|intro _|(simp[rowL];done)|(simp only[List.length_append,List.length_cons,List.length_nil];omega)|(simp[*];done)))
  refine gk_region env false [] [1,2,3,4,12,13,14] ?_
  refine gk_round (i+1) ?_ (hp:=by simp[AllP,take_map (show i<r.cities.length by omega)])
  omega
 ·try simp only[toN]at c1
  refine gk_region env false [] [1,2,3,4,25,26,27] ?_
  refine gk_loop (α:=Nat) (fun i=>i≤r.firms.length) (fun i=>[(27,iG i),(3,.sl 2 1 0 ((r.firms.take i).map fun c=>c.name).length)]) (fun i=>[(2,some (.row 9 1 default strC ((r.firms.take i).map fun c=>c.name) 0))]) (fun i=>r.firms.length-i) 0 (Nat.zero_le _) ?_
  rintro i hi
  have hl:((r.firms.take i).map fun c=>c.name).length=i:=by rw[List.length_map,getD_take' hi]
  refine gk_region env false [] [1,2,3,4,25,26,27,28] ?_
  refine gk_ifd (fun c2=> ?_) (fun c2=> ?_)
  ·try simp only[toN]at c2
   refine gk_region env false [] [1,2,3,4,8,25,26,27] ?_
   refine gk_region env false [.el default strC [(r.firms.getD i default).name],.el default strC (((r.firms.take i).map fun c=>c.name)++ [(r.firms.getD i default).name])] [1,2,3,4,25,26,27] ?_ (hp:=(by simp only[AllP,Int.toNat_natCast];repeat' first|exact trivial|exact EntL.refl _|exact BEntL.refl _|exact rfl|omega|apply And.intro|intro _|(simp[rowL];done)|(simp only[List.length_append,List.length_cons,List.length_nil];omega)|(simp[*];done)))
   refine gk_region env false [] [1,2,3,4,25,26,27] ?_
   refine gk_round (i+1) ?_ (hp:=by simp[AllP,take_map (show i<r.firms.length by omega)])
   omega
  ·try simp only[toN]at c2
   refine gk_region env false [] [2,3,4,38,39,40] ?_
   refine gk_loop (α:=Nat) (fun i=>i≤r.orders.length) (fun i=>[(40,iG i),(4,.sl 3 1 0 ((r.orders.take i).map fun c=>c.name).length)]) (fun i=>[(3,some (.row 9 1 default strC ((r.orders.take i).map fun c=>c.name) 0))]) (fun i=>r.orders.length-i) 0 (Nat.zero_le _) ?_
   rintro i hi
   have hl:((r.orders.take i).map fun c=>c.name).length=i:=by rw[List.length_map,getD_take' hi]
   refine gk_region env false [] [2,3,4,38,39,40,41] ?_
   refine gk_ifd (fun c3=> ?_) (fun c3=> ?_)
   ·try simp only[toN]at c3
    refine gk_region env false [] [2,3,4,10,38,39,40] ?_
    refine gk_region env false [.el default strC [(r.orders.getD i default).name],.el default strC (((r.orders.take i).map fun c=>c.name)++ [(r.orders.getD i default).name])] [2,3,4,38,39,40] ?_ (hp:=(by simp only[AllP,Int.toNat_natCast];repeat' first|exact trivial|exact EntL.refl _|exact BEntL.refl _|exact rfl|omega|apply And.intro|intro _|(simp[rowL];done)|(simp only[List.length_append,List.length_cons,List.length_nil];omega)|(simp[*];done)))
    refine gk_region env false [] [2,3,4,38,39,40] ?_
    refine gk_round (i+1) ?_ (hp:=by simp[AllP,take_map (show i<r.orders.length by omega)])
    omega
   ·try simp only[toN]at c3
    refine gk_region env false [] [2,3,4] ?_
    refine gk_ret env ?_
    simp[cityN,firmN,orderN,tupG]
    exact ⟨List.take_of_length_le (by rw[List.length_map];omega),List.take_of_length_le (by rw[List.length_map];omega),List.take_of_length_le (by rw[List.length_map];omega)⟩
end Go.Gh
namespace Go.Gh
open Go Go.Proofs
set_option maxRecDepth 1000000
set_option maxHeartbeats 2000000
set_option linter.unusedSimpArgs false
set_option linter.unusedVariables false
set_option linter.unnecessarySimpa false
open Go.RowKit
theorem FitR.cityN {r:Rlm} (h:FitR r):(cityN r).length≤1000∧(∀s,s∈Go.Gh.cityN r→s.size≤9223372036854775807)∧(Go.Gh.cityN r).length≤r.cities.length:=by
 unfold Go.Gh.cityN
 refine ⟨by rw[List.length_map];exact h.cities,fun s hs=> ?_,by rw[List.length_map];exact Nat.le_refl _⟩
 obtain ⟨c,hc,rfl⟩:=List.mem_map.1 hs
 exact (h.city c hc).name
theorem FitR.firmN {r:Rlm} (h:FitR r):(firmN r).length≤1000∧(∀s,s∈Go.Gh.firmN r→s.size≤9223372036854775807)∧(Go.Gh.firmN r).length≤r.firms.length:=by
 unfold Go.Gh.firmN
 refine ⟨by rw[List.length_map];exact h.firms,fun s hs=> ?_,by rw[List.length_map];exact Nat.le_refl _⟩
 obtain ⟨c,hc,rfl⟩:=List.mem_map.1 hs
 exact h.firm c hc
theorem FitR.orderN {r:Rlm} (h:FitR r):(orderN r).length≤1000∧(∀s,s∈Go.Gh.orderN r→s.size≤9223372036854775807)∧(Go.Gh.orderN r).length≤r.orders.length:=by
 unfold Go.Gh.orderN
 refine ⟨by rw[List.length_map];exact h.orders,fun s hs=> ?_,by rw[List.length_map];exact Nat.le_refl _⟩
 obtain ⟨c,hc,rfl⟩:=List.mem_map.1 hs
 exact (h.order c hc).1
theorem rcheck_realm (r:Rlm) (hr:FitR r):GC Tryz.prog 42 [rlG r] (iG (realmE r)):=by
 have h1:=hr.groups
 refine gc_of_gk Tryz.func42 ?_
 refine gk_region env false [] [1,2] ?_
 refine gk_region env false [.call (names_ok r hr)] [1,2,3,4,5] ?_
 refine gk_region env false [.call (fits1_ok r.currencies hr.cur hr.curS 8)] [1,2,3,4,5,6] ?_
 refine gk_region env false [] [1,2,3,4,5,6,23] ?_
 refine gk_ifn (fun c1=> ?_) (fun c1=> ?_)
 ·try simp only[toN]at c1
  refine gk_region env false [] [1,2,3,4,5] ?_
  refine gk_ret env ?_
  simp only[realmE,orE]
  rw[if_neg c1];rfl
 ·try simp only[toN]at c1
  refine gk_box 0 ?_
  refine gk_region env false [.call (fits2_ok (cityN r) hr.cityN.1 hr.cityN.2.1 40 r hr hr.cityN.2.2)] [1,2,4,5,7] ?_
  refine gk_region env false [] [1,2,4,5,7,29] ?_
  refine gk_ifn (fun c2=> ?_) (fun c2=> ?_)
  ·try simp only[toN]at c2
   refine gk_region env false [] [1,2,4,5] ?_
   refine gk_ret env ?_
   simp only[realmE,orE]
   rw[if_pos c1,if_neg c2];rfl
  ·try simp only[toN]at c2
   refine gk_region env false [] [1,2,4,5,34] ?_
   refine gk_ifd (fun c3=> ?_) (fun c3=> ?_)
   ·try simp only[toN]at c3
    refine gk_region env false [] [1,2,4,5] ?_
    refine gk_ret env ?_
    simp only[realmE,orE]
    rw[if_pos c1,if_pos c2,if_pos (by omega)];rfl
   ·try simp only[toN]at c3
    refine gk_region env false [] [1,2,4,5,36,37,38] ?_
    refine gk_loop (α:=Nat) (fun i=>i≤r.groups.length∧gradeF r.groups 0=gradeF r.groups i) (fun i=>[(38,iG i)]) (fun _=>[]) (fun i=>r.groups.length-i) 0 ⟨by omega,rfl⟩ ?_ (hp:=by simp[AllP];rfl)
    rintro i ⟨hi,he⟩
    refine gk_region env false [] [1,2,4,5,36,37,38,39] ?_
    refine gk_ifd (fun c4=> ?_) (fun c4=> ?_)
    ·try simp only[toN]at c4
     refine gk_region env false [] [1,2,4,5,9,36,37,38] ?_
     refine gk_region env false [.call (in_ok (r.groups.getD i default) 10)] [1,2,4,5,36,37,38,45] ?_
     refine gk_if (fun c5=> ?_) (fun c5=> ?_)
     ·try simp only[bb,toN]at c5
      refine gk_region env false [] [1,2,4,5,36,37,38] ?_
      refine gk_ret env ?_
      simp only[realmE,orE]
      rw[if_pos c1,if_pos c2,if_neg (by omega),if_neg (by rw[he,gradeF,if_pos (by omega),if_neg (by simpa using c5)];simp)];rfl
     ·try simp only[bb,toN]at c5
      refine gk_region env false [] [1,2,4,5,36,37,38] ?_
      refine gk_round (i+1) ?_ (hp:=by simp[AllP];rfl)
      refine ⟨by omega,he.trans ?_⟩
      rw[gradeF,if_pos (by omega),if_pos (by simpa using c5)]
    ·try simp only[toN]at c4
     refine gk_region env false [.call (fits3_ok (firmN r) hr.firmN.1 hr.firmN.2.1 200 r hr hr.firmN.2.2)] [1,2,5,10] ?_
     refine gk_region env false [] [1,2,5,10,51] ?_
     refine gk_ifn (fun c6=> ?_) (fun c6=> ?_)
     ·try simp only[toN]at c6
      refine gk_region env false [] [1,2,5] ?_
      refine gk_ret env ?_
      have hg:gradeF r.groups 0=true:=by rw[he,gradeF,if_neg (by omega)]
      simp only[realmE,orE]
      rw[if_pos c1,if_pos c2,if_neg (by omega),if_pos hg,if_neg c6];rfl
     ·try simp only[toN]at c6
      refine gk_region env false [.call (fits4_ok (orderN r) hr.orderN.1 hr.orderN.2.1 20 r hr hr.orderN.2.2)] [1,2,11] ?_
      refine gk_region env false [] [1,2,11,57] ?_
      refine gk_ifn (fun c7=> ?_) (fun c7=> ?_)
      ·try simp only[toN]at c7
       refine gk_region env false [] [1,2] ?_
       refine gk_ret env ?_
       have hg:gradeF r.groups 0=true:=by rw[he,gradeF,if_neg (by omega)]
       simp only[realmE,orE]
       rw[if_pos c1,if_pos c2,if_neg (by omega),if_pos hg,if_pos c6,if_neg c7];rfl
      ·try simp only[toN]at c7
       refine gk_region env false [.call (usances_ok r hr)] [1,2,12] ?_
       refine gk_region env false [] [1,2,12,62] ?_
       refine gk_ifn (fun c8=> ?_) (fun c8=> ?_)
       ·try simp only[toN]at c8
        refine gk_region env false [] [1,2] ?_
        refine gk_ret env ?_
        have hg:gradeF r.groups 0=true:=by rw[he,gradeF,if_neg (by omega)]
        simp only[realmE,orE]
        rw[if_pos c1,if_pos c2,if_neg (by omega),if_pos hg,if_pos c6,if_pos c7,if_neg c8];rfl
       ·try simp only[toN]at c8
        refine gk_region env false [.call (rest_ok r hr)] [2] ?_
        refine gk_ret env ?_
        have hg:gradeF r.groups 0=true:=by rw[he,gradeF,if_neg (by omega)]
        simp only[realmE,orE]
        rw[if_pos c1,if_pos c2,if_neg (by omega),if_pos hg,if_pos c6,if_pos c7,if_pos c8];rfl
end Go.Gh
