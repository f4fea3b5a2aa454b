/- Walks by the logic of calls, and plain laws (several texts in one). -/
import Derived.Test.YtffffkfcbjobnaaGreatM3
import Derived.Test.YtffffkfcbjobnaaGreatM2
namespace Go.Gh
open Go Go.Proofs
set_option maxRecDepth 1000000
set_option maxHeartbeats 2000000
set_option linter.unusedSimpArgs false
set_option linter.unusedVariables false
set_option linter.unnecessarySimpa false
open Go.RowKit
def wiV (n lo hi:Int):Bool:=decide (lo≤n)&&decide (n≤hi)
theorem wiV_t {n lo hi:Int} :wiV n lo hi=true↔lo≤n∧n≤hi:=by simp[wiV]
theorem wiV_f {n lo hi:Int} :wiV n lo hi=false↔n<lo∨hi<n:=by simp[wiV];omega
def befF (l:List ByteArray) (n:Int) (s:ByteArray) (i:Nat):Bool:=if (i:Int)<n∧i<l.length then if l.getD i default=s then true else befF l n s (i+1)else false
termination_by l.length-i
theorem befF_any {l:List ByteArray} {n:Nat} {s:ByteArray} (hn:n≤l.length):∀(k i:Nat),n-i=k→befF l n s i=((l.take n).drop i).any fun x=>decide (x=s):=by
 intro k
 induction k with
 |zero=>
  intro i hk
  rw[befF,if_neg (by omega),List.drop_eq_nil_of_le (by rw[List.length_take];omega)];rfl
 |succ k ih=>
  intro i hk
  have hd:(l.take n).drop i=l.getD i default::(l.take n).drop (i+1):=by
   rw[List.drop_eq_getElem_cons (by rw[List.length_take];omega)]
   congr 1
   rw[List.getElem_take,List.getD_eq_getElem?_getD,List.getElem?_eq_getElem (by omega)];rfl
  rw[befF,if_pos ⟨by omega,by omega⟩,hd,List.any_cons,←ih (i+1) (by omega)]
  by_cases h:l.getD i default=s
  ·rw[if_pos h,decide_eq_true h];rfl
  ·rw[if_neg h,decide_eq_false h];rfl
theorem bef_any {l:List ByteArray} {n:Nat} {s:ByteArray} (hn:n≤l.length):befF l n s 0=(l.take n).any fun x=>decide (x=s):=by
 rw[befF_any hn _ 0 rfl];rfl
theorem ba_nil {s:ByteArray} :s=⟨#[]⟩↔s.size=0:=⟨fun h=>by subst h;rfl,fun h=>by
 obtain ⟨d⟩:=s
 have:d.size=0:=h
 congr 1
 exact Array.eq_empty_of_size_eq_zero this⟩
theorem wi_ok (n lo hi:Int):GC Tryz.prog 104 [iG n,iG lo,iG hi] (bG (wiV n lo hi)):=by
 refine gc_of_gk Tryz.func104 ?_
 refine gk_region env false [] [0,1,2,6] ?_
 refine gk_region env false [] [6] ?_
 refine gk_ret env ?_
 simp[tupG,wiV,Bool.cond_eq_ite]
theorem let9_ok (c:Int):GC Tryz.prog 152 [.d (.sc (.int .u8 c))] (bG (letter c)):=by
 refine gc_of_gk Tryz.func152 ?_
 refine gk_region env false [] [0,2] ?_
 refine gk_region env false [] [2] ?_
 refine gk_ret env ?_
 simp only[tupG,letter]
 cases decide (97≤c)<;>cases decide (c≤122)<;>cases decide (65≤c)<;>cases decide (c≤90)<;>rfl
theorem name9_ok (s:ByteArray) (hs:s.size≤9223372036854775807):GC Tryz.prog 135 [sG s] (bG (rnameV s)):=by
 refine gc_of_gk Tryz.func135 ?_
 refine gk_region env false [] [0,2] ?_
 refine gk_region env false [] [0,2,12] ?_
 refine gk_if (fun c1=> ?_) (fun c1=> ?_)
 ·try simp only[bb,toN]at c1
  refine gk_region env false [] [0,2] ?_
  refine gk_ret env ?_
  rw[rnameV,if_pos (by rw[ba_nil];omega)];rfl
 ·try simp only[bb,toN]at c1
  refine gk_region env false [] [0,2,3] ?_
  refine gk_loop (α:=Nat) (fun i=>i≤s.size∧rnF s 0=rnF s i) (fun i=>[(3,iG i)]) (fun _=>[]) (fun i=>s.size-i) 0 ⟨by omega,rfl⟩ ?_ (hp:=by simp only[AllP];repeat' first|exact trivial|exact EntL.refl _|exact BEntL.refl _|exact rfl|omega|apply And.intro|intro _)
  rintro i ⟨hi,he⟩
  refine gk_region env false [] [0,2,3,16] ?_
  refine gk_ifd (fun c2=> ?_) (fun c2=> ?_)
  ·try simp only[toN]at c2
   refine gk_region env false [] [0,2,3,4] ?_
   refine gk_region env false [.call (let9_ok (byteAt s i))] [0,2,3,47] ?_
   refine gk_if (fun c3=> ?_) (fun c3=> ?_)
   ·try simp only[bb,toN]at c3
    refine gk_region env false [] [0,2,3] ?_
    refine gk_ret env ?_
    rw[rnameV,if_neg (by rw[ba_nil];omega),he,rnF,if_pos (by omega),if_pos (by simp only[rnBad,digit];grind)];rfl
   ·try simp only[bb,toN]at c3
    refine gk_region env false [] [0,2,3] ?_
    refine gk_round (i+1) ?_ (hp:=by simp only[AllP];repeat' first|exact trivial|exact EntL.refl _|exact BEntL.refl _|exact rfl|omega|apply And.intro|intro _)
    refine ⟨by omega,he.trans ?_⟩
    rw[rnF,if_pos (by omega),if_neg (by simp only[rnBad,digit];grind)]
  ·try simp only[toN]at c2
   refine gk_region env false [] [2] ?_
   refine gk_ret env ?_
   rw[rnameV,if_neg (by rw[ba_nil];omega),he,rnF,if_neg (by omega)];rfl
theorem before9_ok (l:List ByteArray) (hl:l.length≤9223372036854775807) (n:Int) (s:ByteArray):GC Tryz.prog 136 [rowS l,iG n,sG s] (bG (befF l n s 0)):=by
 refine gc_of_gk Tryz.func136 ?_
 refine gk_region env false [] [0,1,2,6] ?_
 refine gk_region env false [] [0,1,2,6,7] ?_
 refine gk_loop (α:=Nat) (fun i=>i≤l.length∧befF l n s 0=befF l n s i) (fun i=>[(7,iG i)]) (fun _=>[]) (fun i=>l.length-i) 0 ⟨by omega,rfl⟩ ?_ (hp:=by simp only[AllP];repeat' first|exact trivial|exact EntL.refl _|exact BEntL.refl _|exact rfl|omega|apply And.intro|intro _)
 rintro i ⟨hi,he⟩
 refine gk_region env false [] [0,1,2,6,7,16] ?_
 refine gk_if (fun c1=> ?_) (fun c1=> ?_)
 ·try simp only[bb,toN]at c1
  refine gk_region env false [] [0,1,2,6,7,24] ?_
  refine gk_ifd (fun c2=> ?_) (fun c2=> ?_)
  ·try simp only[toN]at c2
   refine gk_region env false [] [0,1,2,6,7] ?_
   refine gk_ret env ?_
   rw[he,befF,if_pos ⟨by omega,by omega⟩,if_pos (by assumption)];rfl
  ·try simp only[toN]at c2
   refine gk_region env false [] [0,1,2,6,7] ?_
   refine gk_round (i+1) ?_ (hp:=by simp only[AllP];repeat' first|exact trivial|exact EntL.refl _|exact BEntL.refl _|exact rfl|omega|apply And.intro|intro _)
   refine ⟨by omega,he.trans ?_⟩
   rw[befF,if_pos ⟨by omega,by omega⟩,if_neg (by assumption)]
 ·try simp only[bb,toN]at c1
  refine gk_region env false [] [6] ?_
  refine gk_ret env ?_
  rw[he,befF,if_neg (by omega)];rfl
theorem rising9_ok (l:List Int) (hl:l.length≤9223372036854775807) (lo hi:Int):GC Tryz.prog 137 [rowI l,iG lo,iG hi] (bG (riseF l lo hi 0)):=by
 refine gc_of_gk Tryz.func137 ?_
 refine gk_region env false [] [0,1,2,6] ?_
 refine gk_region env false [] [0,1,2,6,7] ?_
 refine gk_loop (α:=Nat) (fun i=>i≤l.length∧riseF l lo hi 0=riseF l lo hi i) (fun i=>[(7,iG i)]) (fun _=>[]) (fun i=>l.length-i) 0 ⟨by omega,rfl⟩ ?_ (hp:=by simp only[AllP];repeat' first|exact trivial|exact EntL.refl _|exact BEntL.refl _|exact rfl|omega|apply And.intro|intro _)
 rintro i ⟨hj,he⟩
 refine gk_region env false [] [0,1,2,6,7,11] ?_
 refine gk_ifd (fun c1=> ?_) (fun c1=> ?_)
 ·try simp only[toN]at c1
  refine gk_region env false [.call (wi_ok (l.getD i default) lo hi)] [0,1,2,6,7,21] ?_
  refine gk_if (fun c2=> ?_) (fun c2=> ?_)
  ·try simp only[bb,toN]at c2
   refine gk_region env false [] [0,1,2,6,7] ?_
   refine gk_ret env ?_
   rw[wiV_f]at c2
   rw[he,riseF,if_pos (by omega),if_pos (by simp only[riseBad,Bool.or_eq_true,Bool.and_eq_true,decide_eq_true_eq];omega)];rfl
  ·try simp only[bb,toN]at c2
   refine gk_region env false [] [0,1,2,6,7,35] ?_
   refine gk_if (fun c3=> ?_) (fun c3=> ?_)
   ·try simp only[bb,toN]at c3
    refine gk_region env false [] [0,1,2,6,7] ?_
    refine gk_ret env ?_
    rw[he,riseF,if_pos (by omega),if_pos (by simp only[riseBad,Bool.or_eq_true,Bool.and_eq_true,decide_eq_true_eq];omega)];rfl
   ·try simp only[bb,toN]at c3
    refine gk_region env false [] [0,1,2,6,7] ?_
    refine gk_round (i+1) ?_ (hp:=by simp only[AllP];repeat' first|exact trivial|exact EntL.refl _|exact BEntL.refl _|exact rfl|omega|apply And.intro|intro _)
    refine ⟨by omega,he.trans ?_⟩
    rw[wiV_t]at c2
    rw[riseF,if_pos (by omega),if_neg (by simp only[riseBad,Bool.or_eq_true,Bool.and_eq_true,decide_eq_true_eq];omega)]
 ·try simp only[toN]at c1
  refine gk_region env false [] [6] ?_
  refine gk_ret env ?_
  rw[he,riseF,if_neg (by omega)];rfl
theorem named9_ok (l:List ByteArray) (hl:l.length≤9223372036854775807) (hs:∀s,s∈l→s.size≤9223372036854775807) (i:Nat) (hi:i<l.length):GC Tryz.prog 102 [rowS l,iG i] (iG (namedE l i)):=by
 refine gc_of_gk Tryz.func102 ?_
 refine gk_region env false [] [0,1,4] ?_
 refine gk_region env false [.call (name9_ok (l.getD i default) (hs _ (getD_mem hi)))] [0,1,4,10] ?_
 refine gk_if (fun c1=> ?_) (fun c1=> ?_)
 ·try simp only[bb,toN]at c1
  refine gk_region env false [] [0,1,4] ?_
  refine gk_ret env ?_
  rw[namedE,if_pos (by simpa using c1)];rfl
 ·try simp only[bb,toN]at c1
  refine gk_region env false [.call (before9_ok l hl i (l.getD i default))] [4,17] ?_
  refine gk_if (fun c2=> ?_) (fun c2=> ?_)
  ·try simp only[bb,toN]at c2
   refine gk_region env false [] [4] ?_
   refine gk_ret env ?_
   rw[bef_any (by omega)]at c2
   rw[namedE,if_neg (by simpa using c1),if_pos c2];rfl
  ·try simp only[bb,toN]at c2
   refine gk_region env false [] [4] ?_
   refine gk_ret env ?_
   rw[bef_any (by omega)]at c2
   rw[namedE,if_neg (by simpa using c1),if_neg (by rw[c2];simp)];rfl
theorem wi_in {i:Int} {n:Nat} :wiV i 0 ((n:Int)-1)=inV i n:=by
 simp only[wiV,inV]
 congr 1
 exact decide_eq_decide.2 (by omega)
theorem wi_in' {i:Int} {m n:Int} (h:m=n-1):wiV i 0 m=inV i n:=by
 subst h
 simp only[wiV,inV]
 congr 1
 exact decide_eq_decide.2 (by omega)
def fstB (n:Int):Bool:= !wiV (IntKind.i64.wrap (n.tdiv 100)) 1 12|| !wiV (n.tmod 100) 1 31
def fstF (l:List Int) (i:Nat):Bool:=if i<l.length then if fstB (l.getD i default)=true then false else fstF l (i+1)else true
termination_by l.length-i
def cityR (r:Rlm) (c:Cty):Bool:=bif ((!wiV c.ord 0 ((r.orders.length:Int)-1)|| !wiV c.cur 0 ((r.currencies.length:Int)-1))||decide ((60:Int)<c.feasts.length))||decide ((200:Int)<c.shut.length)then false else bif fstF c.feasts 0 then (riseF c.rest 0 6 0&&riseF c.feasts 0 2000 0)&&riseF c.shut 0 100000 0 else false
def odB (l:List Cho) (i:Nat):Bool:=((!wiV (l.getD i default).ask 0 21)|| !wiV (l.getD i default).by_ 0 4)||(decide ((0:Int)<i)&&decide ((l.getD i default).ask≤(l.getD ((i:Int)-1).toNat default).ask))
def odF (l:List Cho) (i:Nat):Bool:=if i<l.length then if odB l i=true then false else odF l (i+1)else true
termination_by l.length-i
def ruB (l:List Rul) (i:Nat):Bool:=(!wiV (l.getD i default).ask 0 21)||(decide ((0:Int)<i)&&decide ((l.getD i default).ask≤(l.getD ((i:Int)-1).toNat default).ask))
def ruF (l:List Rul) (i:Nat):Bool:=if i<l.length then if ruB l i=true then false else ruF l (i+1)else true
termination_by l.length-i
def orderR (o:Od):Bool:=bif odF o.choices 0 then ruF o.rules 0 else false
theorem city9_ok (r:Rlm) (hr:FitR r) (c:Cty) (hc:FitC c):GC Tryz.prog 103 [rlG r,ctG c] (bG (cityR r c)):=by
 obtain ⟨_,h2,h3,h4⟩:=hc
 have hr1:=hr.orders
 have hr2:=hr.cur
 refine gc_of_gk Tryz.func103 ?_
 refine gk_region env false [] [2,3,4] ?_
 refine gk_box 0 ?_
 refine gk_box 1 ?_
 refine gk_region env false [.call (wi_ok c.ord 0 ((r.orders.length:Int)-1)),.call (wi_ok c.cur 0 ((r.currencies.length:Int)-1))] [3,4,35] ?_
 refine gk_if (fun c1=> ?_) (fun c1=> ?_)
 ·try simp only[bb,toN]at c1
  refine gk_region env false [] [3,4] ?_
  refine gk_ret env ?_
  rcases c1 with ((h|h)|h)|h
  ·simp[tupG,cityR,h]
  ·simp[tupG,cityR,h]
  ·simp[tupG,cityR,h]
  ·simp[tupG,cityR,h]
 ·try simp only[bb,toN]at c1
  refine gk_region env false [] [3,4,5] ?_
  refine gk_loop (α:=Nat) (fun i=>i≤c.feasts.length∧fstF c.feasts 0=fstF c.feasts i) (fun i=>[(5,iG i)]) (fun _=>[]) (fun i=>c.feasts.length-i) 0 ⟨by omega,rfl⟩ ?_ (hp:=by simp only[AllP];repeat' first|exact trivial|exact EntL.refl _|exact BEntL.refl _|exact rfl|omega|apply And.intro|intro _)
  rintro i ⟨hi,he⟩
  refine gk_region env false [] [3,4,5,40] ?_
  refine gk_ifd (fun c2=> ?_) (fun c2=> ?_)
  ·try simp only[toN]at c2
   refine gk_region env true [.call (wi_ok (IntKind.i64.wrap ((c.feasts.getD i default).tdiv 100)) 1 12),.call (wi_ok ((c.feasts.getD i default).tmod 100) 1 31)] [3,4,5,60] ?_
   refine gk_if (fun c3=> ?_) (fun c3=> ?_)
   ·try simp only[bb,toN]at c3
    refine gk_region env false [] [3,4,5] ?_
    refine gk_ret env ?_
    have hq:fstF c.feasts 0=false:=by
     rw[he,fstF,if_pos (by omega),if_pos (by rcases c3 with h|h<;>simp only[fstB,h,Bool.not_false,Bool.true_or,Bool.or_true])]
    rw[cityR,hq]
    simp[tupG]
   ·try simp only[bb,toN]at c3
    refine gk_region env false [] [3,4,5] ?_
    refine gk_round (i+1) ?_ (hp:=by simp only[AllP];repeat' first|exact trivial|exact EntL.refl _|exact BEntL.refl _|exact rfl|omega|apply And.intro|intro _)
    refine ⟨by omega,he.trans ?_⟩
    rw[fstF,if_pos (by omega),if_neg (by simp only[fstB,c3.1,c3.2,Bool.not_true,Bool.or_false];exact Bool.false_ne_true)]
  ·try simp only[toN]at c2
   refine gk_region env false [.call (rising9_ok c.rest h2 0 6),.call (rising9_ok c.feasts h3 0 2000),.call (rising9_ok c.shut h4 0 100000)] [4] ?_
   refine gk_ret env ?_
   have hq:fstF c.feasts 0=true:=by rw[he,fstF,if_neg (by omega)]
   rw[cityR,hq,c1.1.1.1,c1.1.1.2,decide_eq_false (show ¬(60:Int)<c.feasts.length by omega),decide_eq_false (show ¬(200:Int)<c.shut.length by omega)]
   cases riseF c.rest 0 6 0<;>cases riseF c.feasts 0 2000 0<;>rfl
theorem order9_ok (o:Od) (h1:o.choices.length≤1000) (h2:o.rules.length≤1000):GC Tryz.prog 105 [odG o] (bG (orderR o)):=by
 refine gc_of_gk Tryz.func105 ?_
 refine gk_region env false [] [1,2] ?_
 refine gk_box 0 ?_
 refine gk_region env false [] [1,2,3] ?_
 refine gk_loop (α:=Nat) (fun i=>i≤o.choices.length∧odF o.choices 0=odF o.choices i) (fun i=>[(3,iG i)]) (fun _=>[]) (fun i=>o.choices.length-i) 0 ⟨by omega,rfl⟩ ?_ (hp:=by simp only[AllP];repeat' first|exact trivial|exact EntL.refl _|exact BEntL.refl _|exact rfl|omega|apply And.intro|intro _)
 rintro i ⟨hi,he⟩
 refine gk_region env false [] [1,2,3,9] ?_
 refine gk_ifd (fun c1=> ?_) (fun c1=> ?_)
 ·try simp only[toN]at c1
  refine gk_region env false [.call (wi_ok (o.choices.getD i default).ask 0 21),.call (wi_ok (o.choices.getD i default).by_ 0 4)] [1,2,3,29] ?_
  refine gk_if (fun c2=> ?_) (fun c2=> ?_)
  ·try simp only[bb,toN]at c2
   refine gk_region env false [] [1,2,3] ?_
   refine gk_ret env ?_
   unfold orderR
   have hq:odF o.choices 0=false:=by rw[he,odF,if_pos (by omega),if_pos (by rcases c2 with h|h<;>simp[odB,h,-List.getD_eq_getElem?_getD])]
   rw[hq];rfl
  ·try simp only[bb,toN]at c2
   refine gk_region env false [] [1,2,3,47] ?_
   refine gk_if (fun c3=> ?_) (fun c3=> ?_)
   ·try simp only[bb,toN]at c3
    refine gk_region env false [] [1,2,3] ?_
    refine gk_ret env ?_
    unfold orderR
    have hq:odF o.choices 0=false:=by rw[he,odF,if_pos (by omega),if_pos (by simp only[odB,Bool.or_eq_true,Bool.and_eq_true,decide_eq_true_eq];omega)]
    rw[hq];rfl
   ·try simp only[bb,toN]at c3
    refine gk_region env false [] [1,2,3] ?_
    refine gk_round (i+1) ?_ (hp:=by simp only[AllP];repeat' first|exact trivial|exact EntL.refl _|exact BEntL.refl _|exact rfl|omega|apply And.intro|intro _)
    refine ⟨by omega,he.trans ?_⟩
    rw[odF,if_pos (by omega),if_neg (by simp only[odB,c2.1,c2.2,Bool.or_eq_true,Bool.and_eq_true,decide_eq_true_eq,Bool.not_true,Bool.false_eq_true,false_or,or_false];omega)]
 ·try simp only[toN]at c1
  refine gk_region env false [] [1,2,4] ?_
  refine gk_loop (α:=Nat) (fun k=>k≤o.rules.length∧ruF o.rules 0=ruF o.rules k) (fun i=>[(4,iG i)]) (fun _=>[]) (fun i=>o.rules.length-i) 0 ⟨by omega,rfl⟩ ?_ (hp:=by simp only[AllP];repeat' first|exact trivial|exact EntL.refl _|exact BEntL.refl _|exact rfl|omega|apply And.intro|intro _)
  rintro k ⟨hk,hf⟩
  refine gk_region env false [] [1,2,4,52] ?_
  refine gk_ifd (fun c4=> ?_) (fun c4=> ?_)
  ·try simp only[toN]at c4
   refine gk_region env false [.call (wi_ok (o.rules.getD k default).ask 0 21)] [1,2,4,62] ?_
   refine gk_if (fun c5=> ?_) (fun c5=> ?_)
   ·try simp only[bb,toN]at c5
    refine gk_region env false [] [1,2,4] ?_
    refine gk_ret env ?_
    unfold orderR
    have ht:odF o.choices 0=true:=by rw[he,odF,if_neg (by omega)]
    have hq:ruF o.rules 0=false:=by rw[hf,ruF,if_pos (by omega),if_pos (by simp[ruB,c5,-List.getD_eq_getElem?_getD])]
    rw[ht,hq];rfl
   ·try simp only[bb,toN]at c5
    refine gk_region env false [] [1,2,4,80] ?_
    refine gk_if (fun c6=> ?_) (fun c6=> ?_)
    ·try simp only[bb,toN]at c6
     refine gk_region env false [] [1,2,4] ?_
     refine gk_ret env ?_
     unfold orderR
     have ht:odF o.choices 0=true:=by rw[he,odF,if_neg (by omega)]
     have hq:ruF o.rules 0=false:=by rw[hf,ruF,if_pos (by omega),if_pos (by simp only[ruB,Bool.or_eq_true,Bool.and_eq_true,decide_eq_true_eq];omega)]
     rw[ht,hq];rfl
    ·try simp only[bb,toN]at c6
     refine gk_region env false [] [1,2,4] ?_
     refine gk_round (k+1) ?_ (hp:=by simp only[AllP];repeat' first|exact trivial|exact EntL.refl _|exact BEntL.refl _|exact rfl|omega|apply And.intro|intro _)
     refine ⟨by omega,hf.trans ?_⟩
     rw[ruF,if_pos (by omega),if_neg (by simp only[ruB,c5,Bool.or_eq_true,Bool.and_eq_true,decide_eq_true_eq,Bool.not_true,Bool.false_eq_true,false_or,or_false];omega)]
  ·try simp only[toN]at c4
   refine gk_region env false [] [2] ?_
   refine gk_ret env ?_
   unfold orderR
   have ht:odF o.choices 0=true:=by rw[he,odF,if_neg (by omega)]
   have hq:ruF o.rules 0=true:=by rw[hf,ruF,if_neg (by omega)]
   rw[ht,hq];rfl
end Go.Gh
namespace Go.Gh
open Go Go.Proofs
set_option maxRecDepth 1000000
set_option maxHeartbeats 2000000
set_option linter.unusedSimpArgs false
set_option linter.unusedVariables false
set_option linter.unnecessarySimpa false
open Go.RowKit
theorem getD_map' {α β:Type} [Inhabited α] [Inhabited β] {l:List α} {f:α→β} {i:Nat} (h:i<l.length):(l.map f).getD i default=f (l.getD i default):=by
 rw[List.getD_eq_getElem?_getD,List.getElem?_map,List.getElem?_eq_getElem h,List.getD_eq_getElem?_getD,List.getElem?_eq_getElem h];rfl
theorem take_nx {α:Type} [Inhabited α] {l:List α} {i:Nat} (h:i<l.length):l.take (i+1)=l.take i++ [l.getD i default]:=by
 rw[List.take_add_one,List.getElem?_eq_getElem h,List.getD_eq_getElem?_getD,List.getElem?_eq_getElem h];rfl
theorem named_take {l:List ByteArray} {i:Nat} (h:i<l.length):namedE (l.take (i+1)) i=namedE l i:=by
 have e1:(l.take (i+1)).getD i default=l.getD i default:=by
  rw[List.getD_eq_getElem?_getD,List.getElem?_take_of_lt (by omega),←List.getD_eq_getElem?_getD]
 have e2:(l.take (i+1)).take i=l.take i:=by rw[List.take_take];congr 1;omega
 rw[namedE,namedE,e1,e2]
theorem cities9_ok (r:Rlm) (hr:FitR r):GC Tryz.prog 73 [rlG r] (iG (orE (fitsE r.currencies 8 fun _=>true) (fitsE (cityN r) 40 fun i=>cityR r (r.cities.getD i default)))):=by
 have hr1:=hr.cur
 have hr2:=hr.cities
 have hcl:(cityN r).length=r.cities.length:=by simp[cityN]
 have hcs:=hr.cityN.2.1
 refine gc_of_gk Tryz.func73 ?_
 refine gk_region env false [] [1,2] ?_
 refine gk_box 0 ?_
 refine gk_region env false [] [1,2,11] ?_
 refine gk_ifd (fun c1=> ?_) (fun c1=> ?_)
 ·try simp only[toN]at c1
  refine gk_region env false [] [1,2] ?_
  refine gk_ret env ?_
  have hA:fitsE r.currencies 8 (fun _=>true)=6:=if_pos c1
  rw[hA];rfl
 ·try simp only[toN]at c1
  refine gk_region env false [] [1,2,3] ?_
  refine gk_loop (α:=Nat) (fun i=>i≤r.currencies.length∧fitsF r.currencies (fun _=>true) 0=fitsF r.currencies (fun _=>true) i) (fun i=>[(3,iG i)]) (fun _=>[]) (fun i=>r.currencies.length-i) 0 ⟨by omega,rfl⟩ ?_ (hp:=by simp only[AllP];repeat' first|exact trivial|exact EntL.refl _|exact BEntL.refl _|exact rfl|omega|apply And.intro|intro _)
  rintro i ⟨hi,he⟩
  refine gk_region env false [] [1,2,3,16] ?_
  refine gk_ifd (fun c2=> ?_) (fun c2=> ?_)
  ·try simp only[toN]at c2
   refine gk_region env false [.call (named9_ok r.currencies (by omega) hr.curS i (by omega))] [1,2,3,4] ?_
   refine gk_region env false [] [1,2,3,4,24] ?_
   refine gk_ifn (fun c3=> ?_) (fun c3=> ?_)
   ·try simp only[toN]at c3
    refine gk_region env false [] [1,2,3] ?_
    refine gk_ret env ?_
    have hA:fitsE r.currencies 8 (fun _=>true)=namedE r.currencies i:=by rw[fitsE,if_neg c1,he,fitsF,if_pos (by omega),if_neg c3]
    rw[hA,orE,if_neg c3];rfl
   ·try simp only[toN]at c3
    refine gk_region env false [] [1,2,3] ?_
    refine gk_round (i+1) ?_ (hp:=by simp only[AllP];repeat' first|exact trivial|exact EntL.refl _|exact BEntL.refl _|exact rfl|omega|apply And.intro|intro _)
    refine ⟨by omega,he.trans ?_⟩
    rw[fitsF,if_pos (by omega),if_pos (by assumption),if_pos rfl]
  ·try simp only[toN]at c2
   refine gk_region env false [] [1,2,29] ?_
   refine gk_ifd (fun c4=> ?_) (fun c4=> ?_)
   ·try simp only[toN]at c4
    refine gk_region env false [] [1,2] ?_
    refine gk_ret env ?_
    have hA:fitsE r.currencies 8 (fun _=>true)=0:=by rw[fitsE,if_neg c1,he,fitsF,if_neg (by omega)]
    have hB:fitsE (cityN r) 40 (fun i=>cityR r (r.cities.getD i default))=6:=if_pos (by rw[hcl];exact c4)
    rw[hA,hB];rfl
   ·try simp only[toN]at c4
    refine gk_region env false [] [1,2,5] ?_
    refine gk_nil 5 9 1 (default:ByteArray) strC (by rfl) (by rfl) ?_
    refine gk_region env false [] [1,2,5,6] ?_
    refine gk_loop (α:=Nat) (fun i=>i≤(cityN r).length∧fitsF (cityN r) (fun i=>cityR r (r.cities.getD i default)) 0=fitsF (cityN r) (fun i=>cityR r (r.cities.getD i default)) i) (fun i=>[(6,iG i),(5,.sl 1 1 0 ((cityN r).take i).length)]) (fun i=>[(1,some (.row 9 1 (default:ByteArray) strC ((cityN r).take i) ((cityN r).take i).length))]) (fun i=>(cityN r).length-i) 0 ⟨Nat.zero_le _,rfl⟩ ?_ (hp:=by simp only[AllP];repeat' first|exact trivial|exact EntL.refl _|exact BEntL.refl _|exact rfl|omega|apply And.intro|intro _)
    rintro k ⟨hk,hf⟩
    have hl:((cityN r).take k).length=k:=by rw[List.length_take];omega
    refine gk_region env false [] [1,2,5,6,34] ?_
    refine gk_ifd (fun c5=> ?_) (fun c5=> ?_)
    ·try simp only[toN]at c5
     have hnx:(cityN r).take (k+1)=(cityN r).take k++ [(r.cities.getD k default).name]:=by rw[take_nx (by omega),cityN,getD_map' (by omega)]
     refine gk_region env false [.el default strC [(r.cities.getD k default).name],.el default strC ((cityN r).take k++ [(r.cities.getD k default).name])] [1,2,5,6] ?_ (hp:=(by simp only[AllP,Int.toNat_natCast];repeat' first|exact trivial|exact EntL.refl _|exact BEntL.refl _|exact rfl|omega|apply And.intro|intro _|(simp[rowL];done)|(simp only[List.length_append,List.length_cons,List.length_nil];omega)|(simp[*];done)))
     refine gk_region env false [.call (named9_ok ((cityN r).take k++ [(r.cities.getD k default).name]) (by rw[←hnx,List.length_take];omega) (fun s hs=>hcs s (List.mem_of_mem_take (hnx▸hs))) k (by rw[←hnx,List.length_take];omega))] [1,2,5,6,7] ?_ (hp:=(by simp only[AllP];repeat' first|exact trivial|exact EntL.refl _|exact BEntL.refl _|exact rfl|omega|apply And.intro|intro _|(simp;done)))
     refine gk_region env false [] [1,2,5,6,7,50] ?_
     refine gk_ifn (fun c6=> ?_) (fun c6=> ?_)
     ·try simp only[toN]at c6
      refine gk_region env false [] [1,2,5,6] ?_
      refine gk_ret env ?_
      have hA:fitsE r.currencies 8 (fun _=>true)=0:=by rw[fitsE,if_neg c1,he,fitsF,if_neg (by omega)]
      have hnm:namedE (cityN r) k=namedE ((cityN r).take k++ [(r.cities.getD k default).name]) k:=by rw[←hnx,named_take (by omega)]
      have hB:fitsE (cityN r) 40 (fun i=>cityR r (r.cities.getD i default))=namedE (cityN r) k:=by rw[fitsE,if_neg (by rw[hcl];exact c4),hf,fitsF,if_pos (by omega),if_neg (by rw[hnm];exact c6)]
      rw[hA,hB,hnm];rfl
     ·try simp only[toN]at c6
      refine gk_region env false [.call (city9_ok r hr (r.cities.getD k default) (mem_at hr.city (by omega)))] [1,2,5,6,59] ?_
      refine gk_if (fun c7=> ?_) (fun c7=> ?_)
      ·try simp only[bb,toN]at c7
       refine gk_region env false [] [1,2,5,6] ?_
       refine gk_ret env ?_
       have hA:fitsE r.currencies 8 (fun _=>true)=0:=by rw[fitsE,if_neg c1,he,fitsF,if_neg (by omega)]
       have hB:fitsE (cityN r) 40 (fun i=>cityR r (r.cities.getD i default))=1:=by rw[fitsE,if_neg (by rw[hcl];exact c4),hf,fitsF,if_pos (by omega),if_pos (by rw[←named_take (by omega),hnx];exact c6),if_neg (by rw[c7];simp)]
       rw[hA,hB];rfl
      ·try simp only[bb,toN]at c7
       refine gk_region env false [] [1,2,5,6] ?_
       refine gk_round (k+1) ?_ (hp:=by simp only[AllP,hnx];repeat' first|exact trivial|exact EntL.refl _|exact BEntL.refl _|exact rfl|omega|apply And.intro|intro _|(simp;done))
       refine ⟨by omega,hf.trans ?_⟩
       rw[fitsF,if_pos (by omega),if_pos (by rw[←named_take (by omega),hnx];assumption),if_pos (by assumption)]
    ·try simp only[toN]at c5
     refine gk_region env false [] [2] ?_
     refine gk_ret env ?_
     have hA:fitsE r.currencies 8 (fun _=>true)=0:=by rw[fitsE,if_neg c1,he,fitsF,if_neg (by omega)]
     have hB:fitsE (cityN r) 40 (fun i=>cityR r (r.cities.getD i default))=0:=by rw[fitsE,if_neg (by rw[hcl];exact c4),hf,fitsF,if_neg (by omega)]
     rw[hA,hB];rfl
def firmR (r:Rlm) (f:Frm):Bool:=wiV f.city 0 ((r.cities.length:Int)-1)&&wiV f.group 0 ((r.groups.length:Int)-1)
def grF (l:List Int) (i:Nat):Bool:=if i<l.length then if wiV (l.getD i default) 0 9=true then grF l (i+1)else false else true
termination_by l.length-i
def firmsR (r:Rlm):Int:=if (20:Int)<r.groups.length then 6 else if grF r.groups 0=true then fitsE (firmN r) 200 (fun i=>firmR r (r.firms.getD i default))else 1
def ordersR (r:Rlm):Int:=fitsE (orderN r) 20 (fun i=>orderR (r.orders.getD i default))
theorem firms9_ok (r:Rlm) (hr:FitR r):GC Tryz.prog 74 [rlG r] (iG (firmsR r)):=by
 have hr1:=hr.groups
 have hr2:=hr.firms
 have hr3:=hr.cities
 have hcl:(firmN r).length=r.firms.length:=by simp[firmN]
 have hcs:=hr.firmN.2.1
 refine gc_of_gk Tryz.func74 ?_
 refine gk_region env false [] [1,2] ?_
 refine gk_box 0 ?_
 refine gk_region env false [] [1,2,10] ?_
 refine gk_ifd (fun c1=> ?_) (fun c1=> ?_)
 ·try simp only[toN]at c1
  refine gk_region env false [] [1,2] ?_
  refine gk_ret env ?_
  rw[firmsR,if_pos c1];rfl
 ·try simp only[toN]at c1
  refine gk_region env false [] [1,2,3] ?_
  refine gk_loop (α:=Nat) (fun i=>i≤r.groups.length∧grF r.groups 0=grF r.groups i) (fun i=>[(3,iG i)]) (fun _=>[]) (fun i=>r.groups.length-i) 0 ⟨by omega,rfl⟩ ?_ (hp:=by simp only[AllP];repeat' first|exact trivial|exact EntL.refl _|exact BEntL.refl _|exact rfl|omega|apply And.intro|intro _)
  rintro i ⟨hi,he⟩
  refine gk_region env false [] [1,2,3,15] ?_
  refine gk_ifd (fun c2=> ?_) (fun c2=> ?_)
  ·try simp only[toN]at c2
   refine gk_region env false [.call (wi_ok (r.groups.getD i default) 0 9)] [1,2,3,25] ?_
   refine gk_if (fun c3=> ?_) (fun c3=> ?_)
   ·try simp only[bb,toN]at c3
    refine gk_region env false [] [1,2,3] ?_
    refine gk_ret env ?_
    have hg:grF r.groups 0=false:=by rw[he,grF,if_pos (by omega),if_neg (by rw[c3];simp)]
    rw[firmsR,if_neg c1,if_neg (by rw[hg];simp)];rfl
   ·try simp only[bb,toN]at c3
    refine gk_region env false [] [1,2,3] ?_
    refine gk_round (i+1) ?_ (hp:=by simp only[AllP];repeat' first|exact trivial|exact EntL.refl _|exact BEntL.refl _|exact rfl|omega|apply And.intro|intro _)
    refine ⟨by omega,he.trans ?_⟩
    rw[grF,if_pos (by omega),if_pos (by assumption)]
  ·try simp only[toN]at c2
   refine gk_region env false [] [1,2,29] ?_
   refine gk_ifd (fun c4=> ?_) (fun c4=> ?_)
   ·try simp only[toN]at c4
    refine gk_region env false [] [1,2] ?_
    refine gk_ret env ?_
    have hg:grF r.groups 0=true:=by rw[he,grF,if_neg (by omega)]
    have hB:fitsE (firmN r) 200 (fun i=>firmR r (r.firms.getD i default))=6:=if_pos (by rw[hcl];exact c4)
    rw[firmsR,if_neg c1,if_pos hg,hB];rfl
   ·try simp only[toN]at c4
    refine gk_region env false [] [1,2,4] ?_
    refine gk_nil 4 9 1 (default:ByteArray) strC (by rfl) (by rfl) ?_
    refine gk_region env false [] [1,2,4,5] ?_
    refine gk_loop (α:=Nat) (fun i=>i≤(firmN r).length∧fitsF (firmN r) (fun i=>firmR r (r.firms.getD i default)) 0=fitsF (firmN r) (fun i=>firmR r (r.firms.getD i default)) i) (fun i=>[(5,iG i),(4,.sl 1 1 0 ((firmN r).take i).length)]) (fun i=>[(1,some (.row 9 1 (default:ByteArray) strC ((firmN r).take i) ((firmN r).take i).length))]) (fun i=>(firmN r).length-i) 0 ⟨Nat.zero_le _,rfl⟩ ?_ (hp:=by simp only[AllP];repeat' first|exact trivial|exact EntL.refl _|exact BEntL.refl _|exact rfl|omega|apply And.intro|intro _)
    rintro k ⟨hk,hf⟩
    have hl:((firmN r).take k).length=k:=by rw[List.length_take];omega
    refine gk_region env false [] [1,2,4,5,34] ?_
    refine gk_ifd (fun c5=> ?_) (fun c5=> ?_)
    ·try simp only[toN]at c5
     have hnx:(firmN r).take (k+1)=(firmN r).take k++ [(r.firms.getD k default).name]:=by rw[take_nx (by omega),firmN,getD_map' (by omega)]
     refine gk_region env false [.el default strC [(r.firms.getD k default).name],.el default strC ((firmN r).take k++ [(r.firms.getD k default).name])] [1,2,4,5] ?_ (hp:=(by simp only[AllP,Int.toNat_natCast];repeat' first|exact trivial|exact EntL.refl _|exact BEntL.refl _|exact rfl|omega|apply And.intro|intro _|(simp[rowL];done)|(simp only[List.length_append,List.length_cons,List.length_nil];omega)|(simp[*];done)))
     refine gk_region env false [.call (named9_ok ((firmN r).take k++ [(r.firms.getD k default).name]) (by rw[←hnx,List.length_take];omega) (fun s hs=>hcs s (List.mem_of_mem_take (hnx▸hs))) k (by rw[←hnx,List.length_take];omega))] [1,2,4,5,6] ?_ (hp:=(by simp only[AllP];repeat' first|exact trivial|exact EntL.refl _|exact BEntL.refl _|exact rfl|omega|apply And.intro|intro _|(simp;done)))
     refine gk_region env false [] [1,2,4,5,6,50] ?_
     refine gk_ifn (fun c6=> ?_) (fun c6=> ?_)
     ·try simp only[toN]at c6
      refine gk_region env false [] [1,2,4,5] ?_
      refine gk_ret env ?_
      have hg:grF r.groups 0=true:=by rw[he,grF,if_neg (by omega)]
      have hnm:namedE (firmN r) k=namedE ((firmN r).take k++ [(r.firms.getD k default).name]) k:=by rw[←hnx,named_take (by omega)]
      have hB:fitsE (firmN r) 200 (fun i=>firmR r (r.firms.getD i default))=namedE (firmN r) k:=by rw[fitsE,if_neg (by rw[hcl];exact c4),hf,fitsF,if_pos (by omega),if_neg (by rw[hnm];exact c6)]
      rw[firmsR,if_neg c1,if_pos hg,hB,hnm];rfl
     ·try simp only[toN]at c6
      refine gk_region env false [.call (wi_ok (r.firms.getD k default).city 0 ((r.cities.length:Int)-1)),.call (wi_ok (r.firms.getD k default).group 0 ((r.groups.length:Int)-1))] [1,2,4,5,77] ?_
      refine gk_if (fun c7=> ?_) (fun c7=> ?_)
      ·try simp only[bb,toN]at c7
       refine gk_region env false [] [1,2,4,5] ?_
       refine gk_ret env ?_
       have hg:grF r.groups 0=true:=by rw[he,grF,if_neg (by omega)]
       have hB:fitsE (firmN r) 200 (fun i=>firmR r (r.firms.getD i default))=1:=by rw[fitsE,if_neg (by rw[hcl];exact c4),hf,fitsF,if_pos (by omega),if_pos (by rw[←named_take (by omega),hnx];exact c6),if_neg (by rw[(show firmR r (r.firms.getD k default)=false by rw[firmR];rcases c7 with h|h<;>simp only[h,Bool.false_and,Bool.and_false])];simp)]
       rw[firmsR,if_neg c1,if_pos hg,hB];rfl
      ·try simp only[bb,toN]at c7
       refine gk_region env false [] [1,2,4,5] ?_
       refine gk_round (k+1) ?_ (hp:=by simp only[AllP,hnx];repeat' first|exact trivial|exact EntL.refl _|exact BEntL.refl _|exact rfl|omega|apply And.intro|intro _|(simp;done))
       refine ⟨by omega,hf.trans ?_⟩
       rw[fitsF,if_pos (by omega),if_pos (by rw[←named_take (by omega),hnx];assumption),if_pos (by rw[firmR,Bool.and_eq_true];assumption)]
    ·try simp only[toN]at c5
     refine gk_region env false [] [2] ?_
     refine gk_ret env ?_
     have hg:grF r.groups 0=true:=by rw[he,grF,if_neg (by omega)]
     have hB:fitsE (firmN r) 200 (fun i=>firmR r (r.firms.getD i default))=0:=by rw[fitsE,if_neg (by rw[hcl];exact c4),hf,fitsF,if_neg (by omega)]
     rw[firmsR,if_neg c1,if_pos hg,hB];rfl
theorem orders9_ok (r:Rlm) (hr:FitR r):GC Tryz.prog 75 [rlG r] (iG (ordersR r)):=by
 have hr2:=hr.orders
 have hcl:(orderN r).length=r.orders.length:=by simp[orderN]
 have hcs:=hr.orderN.2.1
 refine gc_of_gk Tryz.func75 ?_
 refine gk_region env false [] [1,2] ?_
 refine gk_box 0 ?_
 refine gk_region env false [] [1,2,9] ?_
 refine gk_ifd (fun c1=> ?_) (fun c1=> ?_)
 ·try simp only[toN]at c1
  refine gk_region env false [] [1,2] ?_
  refine gk_ret env ?_
  have hB:fitsE (orderN r) 20 (fun i=>orderR (r.orders.getD i default))=6:=if_pos (by rw[hcl];exact c1)
  rw[ordersR,hB];rfl
 ·try simp only[toN]at c1
  refine gk_region env false [] [1,2,3] ?_
  refine gk_nil 3 9 1 (default:ByteArray) strC (by rfl) (by rfl) ?_
  refine gk_region env false [] [1,2,3,4] ?_
  refine gk_loop (α:=Nat) (fun i=>i≤(orderN r).length∧fitsF (orderN r) (fun i=>orderR (r.orders.getD i default)) 0=fitsF (orderN r) (fun i=>orderR (r.orders.getD i default)) i) (fun i=>[(4,iG i),(3,.sl 1 1 0 ((orderN r).take i).length)]) (fun i=>[(1,some (.row 9 1 (default:ByteArray) strC ((orderN r).take i) ((orderN r).take i).length))]) (fun i=>(orderN r).length-i) 0 ⟨Nat.zero_le _,rfl⟩ ?_ (hp:=by simp only[AllP];repeat' first|exact trivial|exact EntL.refl _|exact BEntL.refl _|exact rfl|omega|apply And.intro|intro _)
  rintro k ⟨hk,hf⟩
  have hl:((orderN r).take k).length=k:=by rw[List.length_take];omega
  refine gk_region env false [] [1,2,3,4,14] ?_
  refine gk_ifd (fun c2=> ?_) (fun c2=> ?_)
  ·try simp only[toN]at c2
   have hnx:(orderN r).take (k+1)=(orderN r).take k++ [(r.orders.getD k default).name]:=by rw[take_nx (by omega),orderN,getD_map' (by omega)]
   have hok:=mem_at hr.order (i:=k) (by omega)
   refine gk_region env false [.el default strC [(r.orders.getD k default).name],.el default strC ((orderN r).take k++ [(r.orders.getD k default).name])] [1,2,3,4] ?_ (hp:=(by simp only[AllP,Int.toNat_natCast];repeat' first|exact trivial|exact EntL.refl _|exact BEntL.refl _|exact rfl|omega|apply And.intro|intro _|(simp[rowL];done)|(simp only[List.length_append,List.length_cons,List.length_nil];omega)|(simp[*];done)))
   refine gk_region env false [.call (named9_ok ((orderN r).take k++ [(r.orders.getD k default).name]) (by rw[←hnx,List.length_take];omega) (fun s hs=>hcs s (List.mem_of_mem_take (hnx▸hs))) k (by rw[←hnx,List.length_take];omega))] [1,2,3,4,5] ?_ (hp:=(by simp only[AllP];repeat' first|exact trivial|exact EntL.refl _|exact BEntL.refl _|exact rfl|omega|apply And.intro|intro _|(simp;done)))
   refine gk_region env false [] [1,2,3,4,5,30] ?_
   refine gk_ifn (fun c3=> ?_) (fun c3=> ?_)
   ·try simp only[toN]at c3
    refine gk_region env false [] [1,2,3,4] ?_
    refine gk_ret env ?_
    have hnm:namedE (orderN r) k=namedE ((orderN r).take k++ [(r.orders.getD k default).name]) k:=by rw[←hnx,named_take (by omega)]
    have hB:fitsE (orderN r) 20 (fun i=>orderR (r.orders.getD i default))=namedE (orderN r) k:=by rw[fitsE,if_neg (by rw[hcl];exact c1),hf,fitsF,if_pos (by omega),if_neg (by rw[hnm];exact c3)]
    rw[ordersR,hB,hnm];rfl
   ·try simp only[toN]at c3
    refine gk_region env false [.call (order9_ok (r.orders.getD k default) hok.2.1 hok.2.2)] [1,2,3,4,38] ?_
    refine gk_if (fun c4=> ?_) (fun c4=> ?_)
    ·try simp only[bb,toN]at c4
     refine gk_region env false [] [1,2,3,4] ?_
     refine gk_ret env ?_
     have hB:fitsE (orderN r) 20 (fun i=>orderR (r.orders.getD i default))=1:=by rw[fitsE,if_neg (by rw[hcl];exact c1),hf,fitsF,if_pos (by omega),if_pos (by rw[←named_take (by omega),hnx];exact c3),if_neg (by rw[c4];simp)]
     rw[ordersR,hB];rfl
    ·try simp only[bb,toN]at c4
     refine gk_region env false [] [1,2,3,4] ?_
     refine gk_round (k+1) ?_ (hp:=by simp only[AllP,hnx];repeat' first|exact trivial|exact EntL.refl _|exact BEntL.refl _|exact rfl|omega|apply And.intro|intro _|(simp;done))
     refine ⟨by omega,hf.trans ?_⟩
     rw[fitsF,if_pos (by omega),if_pos (by rw[←named_take (by omega),hnx];assumption),if_pos (by assumption)]
  ·try simp only[toN]at c2
   refine gk_region env false [] [2] ?_
   refine gk_ret env ?_
   have hB:fitsE (orderN r) 20 (fun i=>orderR (r.orders.getD i default))=0:=by rw[fitsE,if_neg (by rw[hcl];exact c1),hf,fitsF,if_neg (by omega)]
   rw[ordersR,hB];rfl
end Go.Gh
namespace Go.Gh
open Go Go.Proofs
set_option maxRecDepth 1000000
set_option maxHeartbeats 2000000
set_option linter.unusedSimpArgs false
set_option linter.unusedVariables false
set_option linter.unnecessarySimpa false
open Go.RowKit
def usB9 (r:Rlm) (u:Us):Bool:=(!wiV u.fr 0 ((r.cities.length:Int)-1)|| !wiV u.dst 0 ((r.cities.length:Int)-1))|| !wiV u.days 1 20000
def usF9 (r:Rlm) (i:Nat):Int:=if i<r.usances.length then if usB9 r (r.usances.getD i default)=true then 1 else if usI (r.usances.take i) (r.usances.getD i default) 0=true then 5 else usF9 r (i+1)else 0
termination_by r.usances.length-i
def usE9 (r:Rlm):Int:=if (100:Int)<r.usances.length then 6 else usF9 r 0
def rtB9 (r:Rlm) (x:Rt):Bool:=((!wiV x.fr 0 ((r.currencies.length:Int)-1)|| !wiV x.dst 0 ((r.currencies.length:Int)-1))||decide (x.fr=x.dst))||((!wiV x.num 1 1073741824|| !wiV x.den 1 1073741824)|| !wiV x.since 0 100000)
def rtF9 (r:Rlm) (i:Nat):Bool:=if i<r.rates.length then if rtB9 r (r.rates.getD i default)=true then false else rtF9 r (i+1)else true
termination_by r.rates.length-i
def htB9 (r:Rlm) (x:Ht):Bool:=(!wiV x.ord 0 ((r.orders.length:Int)-1)|| !wiV x.fr 0 x.dst)||decide (100000<x.dst)
def htF9 (r:Rlm) (i:Nat):Bool:=if i<r.halts.length then if htB9 r (r.halts.getD i default)=true then false else htF9 r (i+1)else true
termination_by r.halts.length-i
def restE9 (r:Rlm):Int:=if (100:Int)<r.rates.length then 6 else if rtF9 r 0=true then if (20:Int)<r.halts.length then 6 else if htF9 r 0=true then 0 else 1 else 1
def citiesR (r:Rlm):Int:=orE (fitsE r.currencies 8 fun _=>true) (fitsE (cityN r) 40 fun i=>cityR r (r.cities.getD i default))
def realmR (r:Rlm):Int:=orE (citiesR r) (orE (firmsR r) (orE (ordersR r) (orE (usE9 r) (restE9 r))))
theorem tk_get {α:Type} [Inhabited α] {l:List α} {k j:Nat} (h:j<k):(l.take k).getD j default=l.getD j default:=by
 rw[List.getD_eq_getElem?_getD,List.getElem?_take_of_lt h,←List.getD_eq_getElem?_getD]
theorem us9_ok (r:Rlm) (hr:FitR r):GC Tryz.prog 76 [rlG r] (iG (usE9 r)):=by
 have hr1:=hr.usances
 have hr2:=hr.cities
 refine gc_of_gk Tryz.func76 ?_
 refine gk_region env false [] [1,2] ?_
 refine gk_box 0 ?_
 refine gk_region env false [] [1,2,9] ?_
 refine gk_ifd (fun c1=> ?_) (fun c1=> ?_)
 ·try simp only[toN]at c1
  refine gk_region env false [] [1,2] ?_
  refine gk_ret env ?_
  rw[usE9,if_pos c1];rfl
 ·try simp only[toN]at c1
  refine gk_region env false [] [1,2,3] ?_
  refine gk_loop (α:=Nat) (fun i=>i≤r.usances.length∧usF9 r 0=usF9 r i) (fun i=>[(3,iG i)]) (fun _=>[]) (fun i=>r.usances.length-i) 0 ⟨Nat.zero_le _,rfl⟩ ?_ (hp:=by simp only[AllP];repeat' first|exact trivial|exact EntL.refl _|exact BEntL.refl _|exact rfl|omega|apply And.intro|intro _)
  rintro i ⟨hi,he⟩
  refine gk_region env false [] [1,2,3,14] ?_
  refine gk_ifd (fun c2=> ?_) (fun c2=> ?_)
  ·try simp only[toN]at c2
   refine gk_region env false [] [1,2,3,4] ?_
   refine gk_region env false [.call (wi_ok (r.usances.getD i default).fr 0 ((r.cities.length:Int)-1)),.call (wi_ok (r.usances.getD i default).dst 0 ((r.cities.length:Int)-1)),.call (wi_ok (r.usances.getD i default).days 1 20000)] [1,2,3,4,45] ?_
   refine gk_if (fun c3=> ?_) (fun c3=> ?_)
   ·try simp only[bb,toN]at c3
    refine gk_region env false [] [1,2,3,4] ?_
    refine gk_ret env ?_
    rw[usE9,if_neg c1,he,usF9,if_pos (by omega),if_pos (by rcases c3 with (h|h)|h<;>simp only[usB9,h,Bool.not_false,Bool.true_or,Bool.or_true])];rfl
   ·try simp only[bb,toN]at c3
    refine gk_region env false [] [1,2,3,4,5] ?_
    refine gk_loop (α:=Nat) (fun k=>k≤i∧usI (r.usances.take i) (r.usances.getD i default) 0=usI (r.usances.take i) (r.usances.getD i default) k) (fun k=>[(5,iG k)]) (fun _=>[]) (fun k=>i-k) 0 ⟨Nat.zero_le _,rfl⟩ ?_ (hp:=by simp only[AllP];repeat' first|exact trivial|exact EntL.refl _|exact BEntL.refl _|exact rfl|omega|apply And.intro|intro _)
    rintro k ⟨hk,hf⟩
    refine gk_region env false [] [1,2,3,4,5,48] ?_
    refine gk_ifd (fun c4=> ?_) (fun c4=> ?_)
    ·try simp only[toN]at c4
     refine gk_region env false [] [1,2,3,4,5,70] ?_
     refine gk_if (fun c5=> ?_) (fun c5=> ?_)
     ·try simp only[bb,toN]at c5
      refine gk_region env false [] [1,2,3,4,5] ?_
      refine gk_ret env ?_
      have hus:usB9 r (r.usances.getD i default)=false:=by rw[usB9,c3.1.1,c3.1.2,c3.2];rfl
      have hq:usI (r.usances.take i) (r.usances.getD i default) 0=true:=by rw[hf,usI,if_pos (by rw[List.length_take];omega),if_pos (by rw[tk_get (by omega)];simp only[usHit,Bool.and_eq_true,decide_eq_true_eq];omega)]
      rw[usE9,if_neg c1,he,usF9,if_pos (by omega),if_neg (by rw[hus];simp),if_pos hq];rfl
     ·try simp only[bb,toN]at c5
      refine gk_region env false [] [1,2,3,4,5] ?_
      refine gk_round (k+1) ?_ (hp:=by simp only[AllP];repeat' first|exact trivial|exact EntL.refl _|exact BEntL.refl _|exact rfl|omega|apply And.intro|intro _)
      refine ⟨by omega,hf.trans ?_⟩
      rw[usI,if_pos (by rw[List.length_take];omega),if_neg (by rw[tk_get (by omega)];simp only[usHit,Bool.and_eq_true,decide_eq_true_eq];omega)]
    ·try simp only[toN]at c4
     refine gk_region env false [] [1,2,3] ?_
     refine gk_round (i+1) ?_ (hp:=by simp only[AllP];repeat' first|exact trivial|exact EntL.refl _|exact BEntL.refl _|exact rfl|omega|apply And.intro|intro _)
     refine ⟨by omega,he.trans ?_⟩
     have hus:usB9 r (r.usances.getD i default)=false:=by rw[usB9,c3.1.1,c3.1.2,c3.2];rfl
     have hq:usI (r.usances.take i) (r.usances.getD i default) 0=false:=by rw[hf,usI,if_neg (by rw[List.length_take];omega)]
     rw[usF9,if_pos (by omega),if_neg (by rw[hus];simp),if_neg (by rw[hq];simp)]
  ·try simp only[toN]at c2
   refine gk_region env false [] [2] ?_
   refine gk_ret env ?_
   rw[usE9,if_neg c1,he,usF9,if_neg (by omega)];rfl
theorem rest9_ok (r:Rlm) (hr:FitR r):GC Tryz.prog 77 [rlG r] (iG (restE9 r)):=by
 have hr1:=hr.rates
 have hr2:=hr.halts
 have hr3:=hr.cur
 have hr4:=hr.orders
 refine gc_of_gk Tryz.func77 ?_
 refine gk_region env false [] [1,2] ?_
 refine gk_box 0 ?_
 refine gk_region env false [] [1,2,10] ?_
 refine gk_ifd (fun c1=> ?_) (fun c1=> ?_)
 ·try simp only[toN]at c1
  refine gk_region env false [] [1,2] ?_
  refine gk_ret env ?_
  rw[restE9,if_pos c1];rfl
 ·try simp only[toN]at c1
  refine gk_region env false [] [1,2,3] ?_
  refine gk_loop (α:=Nat) (fun i=>i≤r.rates.length∧rtF9 r 0=rtF9 r i) (fun i=>[(3,iG i)]) (fun _=>[]) (fun i=>r.rates.length-i) 0 ⟨Nat.zero_le _,rfl⟩ ?_ (hp:=by simp only[AllP];repeat' first|exact trivial|exact EntL.refl _|exact BEntL.refl _|exact rfl|omega|apply And.intro|intro _)
  rintro i ⟨hi,he⟩
  refine gk_region env false [] [1,2,3,15] ?_
  refine gk_ifd (fun c2=> ?_) (fun c2=> ?_)
  ·try simp only[toN]at c2
   refine gk_region env false [] [1,2,3,4] ?_
   refine gk_region env false [.call (wi_ok (r.rates.getD i default).fr 0 ((r.currencies.length:Int)-1)),.call (wi_ok (r.rates.getD i default).dst 0 ((r.currencies.length:Int)-1))] [1,2,3,4,47] ?_
   refine gk_if (fun c3=> ?_) (fun c3=> ?_)
   ·try simp only[bb,toN]at c3
    refine gk_region env false [] [1,2,3,4] ?_
    refine gk_ret env ?_
    have hx:rtB9 r (r.rates.getD i default)=true:=by rcases c3 with (h|h)|h<;>simp only[rtB9,h,decide_true,Bool.not_false,Bool.true_or,Bool.or_true]
    have hg:rtF9 r 0=false:=by rw[he,rtF9,if_pos (by omega),if_pos hx]
    rw[restE9,if_neg c1,if_neg (by rw[hg];simp)];rfl
   ·try simp only[bb,toN]at c3
    refine gk_region env false [.call (wi_ok (r.rates.getD i default).num 1 1073741824),.call (wi_ok (r.rates.getD i default).den 1 1073741824),.call (wi_ok (r.rates.getD i default).since 0 100000)] [1,2,3,63] ?_
    refine gk_if (fun c4=> ?_) (fun c4=> ?_)
    ·try simp only[bb,toN]at c4
     refine gk_region env false [] [1,2,3] ?_
     refine gk_ret env ?_
     have hx:rtB9 r (r.rates.getD i default)=true:=by rcases c4 with (h|h)|h<;>simp only[rtB9,h,Bool.not_false,Bool.true_or,Bool.or_true]
     have hg:rtF9 r 0=false:=by rw[he,rtF9,if_pos (by omega),if_pos hx]
     rw[restE9,if_neg c1,if_neg (by rw[hg];simp)];rfl
    ·try simp only[bb,toN]at c4
     refine gk_region env false [] [1,2,3] ?_
     refine gk_round (i+1) ?_ (hp:=by simp only[AllP];repeat' first|exact trivial|exact EntL.refl _|exact BEntL.refl _|exact rfl|omega|apply And.intro|intro _)
     refine ⟨by omega,he.trans ?_⟩
     have hx:rtB9 r (r.rates.getD i default)=false:=by rw[rtB9,c3.1.1,c3.1.2,decide_eq_false c3.2,c4.1.1,c4.1.2,c4.2];rfl
     rw[rtF9,if_pos (by omega),if_neg (by rw[hx];simp)]
  ·try simp only[toN]at c2
   refine gk_region env false [] [1,2,67] ?_
   refine gk_ifd (fun c5=> ?_) (fun c5=> ?_)
   ·try simp only[toN]at c5
    refine gk_region env false [] [1,2] ?_
    refine gk_ret env ?_
    have hg:rtF9 r 0=true:=by rw[he,rtF9,if_neg (by omega)]
    rw[restE9,if_neg c1,if_pos hg,if_pos (by assumption)];rfl
   ·try simp only[toN]at c5
    refine gk_region env false [] [1,2,5] ?_
    refine gk_loop (α:=Nat) (fun i=>i≤r.halts.length∧htF9 r 0=htF9 r i) (fun i=>[(5,iG i)]) (fun _=>[]) (fun i=>r.halts.length-i) 0 ⟨Nat.zero_le _,rfl⟩ ?_ (hp:=by simp only[AllP];repeat' first|exact trivial|exact EntL.refl _|exact BEntL.refl _|exact rfl|omega|apply And.intro|intro _)
    rintro k ⟨hk,hf⟩
    refine gk_region env false [] [1,2,5,72] ?_
    refine gk_ifd (fun c6=> ?_) (fun c6=> ?_)
    ·try simp only[toN]at c6
     refine gk_region env false [] [1,2,5,6] ?_
     refine gk_region env false [.call (wi_ok (r.halts.getD k default).ord 0 ((r.orders.length:Int)-1)),.call (wi_ok (r.halts.getD k default).fr 0 (r.halts.getD k default).dst)] [1,2,5,100] ?_
     refine gk_if (fun c7=> ?_) (fun c7=> ?_)
     ·try simp only[bb,toN]at c7
      refine gk_region env false [] [1,2,5] ?_
      refine gk_ret env ?_
      have hg:rtF9 r 0=true:=by rw[he,rtF9,if_neg (by omega)]
      have hx:htB9 r (r.halts.getD k default)=true:=by
       rcases c7 with (h|h)|h
       ·simp only[htB9,h,Bool.not_false,Bool.true_or]
       ·simp only[htB9,h,Bool.not_false,Bool.true_or,Bool.or_true]
       ·simp only[htB9,decide_eq_true h,Bool.or_true]
      have hh:htF9 r 0=false:=by rw[hf,htF9,if_pos (by omega),if_pos hx]
      rw[restE9,if_neg c1,if_pos hg,if_neg (by assumption),if_neg (by rw[hh];simp)];rfl
     ·try simp only[bb,toN]at c7
      refine gk_region env false [] [1,2,5] ?_
      refine gk_round (k+1) ?_ (hp:=by simp only[AllP];repeat' first|exact trivial|exact EntL.refl _|exact BEntL.refl _|exact rfl|omega|apply And.intro|intro _)
      have hx:htB9 r (r.halts.getD k default)=false:=by rw[htB9,c7.1.1,c7.1.2,decide_eq_false (by omega)];rfl
      refine ⟨by omega,hf.trans ?_⟩
      rw[htF9,if_pos (by omega),if_neg (by rw[hx];simp)]
    ·try simp only[toN]at c6
     refine gk_region env false [] [2] ?_
     refine gk_ret env ?_
     have hg:rtF9 r 0=true:=by rw[he,rtF9,if_neg (by omega)]
     have hh:htF9 r 0=true:=by rw[hf,htF9,if_neg (by omega)]
     rw[restE9,if_neg c1,if_pos hg,if_neg (by assumption),if_pos hh];rfl
theorem check9_ok (r:Rlm) (hr:FitR r):GC Tryz.prog 45 [rlG r] (iG (realmR r)):=by
 refine gc_of_gk Tryz.func45 ?_
 refine gk_region env false [] [1,2] ?_
 refine gk_box 0 ?_
 refine gk_region env false [.call (show GC Tryz.prog 73 [rlG r] (iG (citiesR r))from cities9_ok r hr)] [1,2,3] ?_
 refine gk_region env false [] [1,2,3,7] ?_
 refine gk_ifd (fun c1=> ?_) (fun c1=> ?_)
 ·try simp only[toN]at c1
  refine gk_region env false [.call (firms9_ok r hr)] [1,2,3] ?_
  refine gk_region env false [] [1,2,3,11] ?_
  refine gk_ifd (fun c2=> ?_) (fun c2=> ?_)
  ·try simp only[toN]at c2
   refine gk_region env false [.call (orders9_ok r hr)] [1,2,3] ?_
   refine gk_region env false [] [1,2,3,15] ?_
   refine gk_ifd (fun c3=> ?_) (fun c3=> ?_)
   ·try simp only[toN]at c3
    refine gk_region env false [.call (us9_ok r hr)] [1,2,3] ?_
    refine gk_region env false [] [1,2,3,19] ?_
    refine gk_ifd (fun c4=> ?_) (fun c4=> ?_)
    ·try simp only[toN]at c4
     refine gk_region env false [.call (rest9_ok r hr)] [2,3] ?_
     refine gk_region env false [] [2] ?_
     refine gk_ret env ?_
     first|contradiction|(simp only[tupG,realmR,orE];simp[*])
    ·try simp only[toN]at c4
     refine gk_region env false [] [2] ?_
     refine gk_ret env ?_
     first|contradiction|(simp only[tupG,realmR,orE];simp[*])
   ·try simp only[toN]at c3
    refine gk_region env false [] [1,2,3,19] ?_
    refine gk_ifd (fun c5=> ?_) (fun c5=> ?_)
    ·try simp only[toN]at c5
     refine gk_region env false [.call (rest9_ok r hr)] [2,3] ?_
     refine gk_region env false [] [2] ?_
     refine gk_ret env ?_
     first|contradiction|(simp only[tupG,realmR,orE];simp[*])
    ·try simp only[toN]at c5
     refine gk_region env false [] [2] ?_
     refine gk_ret env ?_
     first|contradiction|(simp only[tupG,realmR,orE];simp[*])
  ·try simp only[toN]at c2
   refine gk_region env false [] [1,2,3,15] ?_
   refine gk_ifd (fun c6=> ?_) (fun c6=> ?_)
   ·try simp only[toN]at c6
    refine gk_region env false [.call (us9_ok r hr)] [1,2,3] ?_
    refine gk_region env false [] [1,2,3,19] ?_
    refine gk_ifd (fun c7=> ?_) (fun c7=> ?_)
    ·try simp only[toN]at c7
     refine gk_region env false [.call (rest9_ok r hr)] [2,3] ?_
     refine gk_region env false [] [2] ?_
     refine gk_ret env ?_
     first|contradiction|(simp only[tupG,realmR,orE];simp[*])
    ·try simp only[toN]at c7
     refine gk_region env false [] [2] ?_
     refine gk_ret env ?_
     first|contradiction|(simp only[tupG,realmR,orE];simp[*])
   ·try simp only[toN]at c6
    refine gk_region env false [] [1,2,3,19] ?_
    refine gk_ifd (fun c8=> ?_) (fun c8=> ?_)
    ·try simp only[toN]at c8
     refine gk_region env false [.call (rest9_ok r hr)] [2,3] ?_
     refine gk_region env false [] [2] ?_
     refine gk_ret env ?_
     first|contradiction|(simp only[tupG,realmR,orE];simp[*])
    ·try simp only[toN]at c8
     refine gk_region env false [] [2] ?_
     refine gk_ret env ?_
     first|contradiction|(simp only[tupG,realmR,orE];simp[*])
 ·try simp only[toN]at c1
  refine gk_region env false [] [1,2,3,11] ?_
  refine gk_ifd (fun c9=> ?_) (fun c9=> ?_)
  ·try simp only[toN]at c9
   refine gk_region env false [.call (orders9_ok r hr)] [1,2,3] ?_
   refine gk_region env false [] [1,2,3,15] ?_
   refine gk_ifd (fun c10=> ?_) (fun c10=> ?_)
   ·try simp only[toN]at c10
    refine gk_region env false [.call (us9_ok r hr)] [1,2,3] ?_
    refine gk_region env false [] [1,2,3,19] ?_
    refine gk_ifd (fun c11=> ?_) (fun c11=> ?_)
    ·try simp only[toN]at c11
     refine gk_region env false [.call (rest9_ok r hr)] [2,3] ?_
     refine gk_region env false [] [2] ?_
     refine gk_ret env ?_
     first|contradiction|(simp only[tupG,realmR,orE];simp[*])
    ·try simp only[toN]at c11
     refine gk_region env false [] [2] ?_
     refine gk_ret env ?_
     first|contradiction|(simp only[tupG,realmR,orE];simp[*])
   ·try simp only[toN]at c10
    refine gk_region env false [] [1,2,3,19] ?_
    refine gk_ifd (fun c12=> ?_) (fun c12=> ?_)
    ·try simp only[toN]at c12
     refine gk_region env false [.call (rest9_ok r hr)] [2,3] ?_
     refine gk_region env false [] [2] ?_
     refine gk_ret env ?_
     first|contradiction|(simp only[tupG,realmR,orE];simp[*])
    ·try simp only[toN]at c12
     refine gk_region env false [] [2] ?_
     refine gk_ret env ?_
     first|contradiction|(simp only[tupG,realmR,orE];simp[*])
  ·try simp only[toN]at c9
   refine gk_region env false [] [1,2,3,15] ?_
   refine gk_ifd (fun c13=> ?_) (fun c13=> ?_)
   ·try simp only[toN]at c13
    refine gk_region env false [.call (us9_ok r hr)] [1,2,3] ?_
    refine gk_region env false [] [1,2,3,19] ?_
    refine gk_ifd (fun c14=> ?_) (fun c14=> ?_)
    ·try simp only[toN]at c14
     refine gk_region env false [.call (rest9_ok r hr)] [2,3] ?_
     refine gk_region env false [] [2] ?_
     refine gk_ret env ?_
     first|contradiction|(simp only[tupG,realmR,orE];simp[*])
    ·try simp only[toN]at c14
     refine gk_region env false [] [2] ?_
     refine gk_ret env ?_
     first|contradiction|(simp only[tupG,realmR,orE];simp[*])
   ·try simp only[toN]at c13
    refine gk_region env false [] [1,2,3,19] ?_
    refine gk_ifd (fun c15=> ?_) (fun c15=> ?_)
    ·try simp only[toN]at c15
     refine gk_region env false [.call (rest9_ok r hr)] [2,3] ?_
     refine gk_region env false [] [2] ?_
     refine gk_ret env ?_
     first|contradiction|(simp only[tupG,realmR,orE];simp[*])
    ·try simp only[toN]at c15
     refine gk_region env false [] [2] ?_
     refine gk_ret env ?_
     first|contradiction|(simp only[tupG,realmR,orE];simp[*])
theorem grF_p {l:List Int} {i:Nat} (h:i<l.length):grF l i=if wiV (l.getD i default) 0 9=true then grF l (i+1)else false:=by rw[grF,if_pos h]
theorem gradeF_p {l:List Int} {i:Nat} (h:i<l.length):gradeF l i=if inV (l.getD i default) 10=true then gradeF l (i+1)else false:=by rw[gradeF,if_pos h]
theorem odF_p {l:List Cho} {i:Nat} (h:i<l.length):odF l i=if odB l i=true then false else odF l (i+1):=by rw[odF,if_pos h]
theorem choF_p {l:List Cho} {i:Nat} (h:i<l.length):choF l i=if inV (l.getD i default).by_ 5=true then choF l (i+1)else false:=by rw[choF,if_pos h]
theorem riseF_p {l:List Int} {lo hi:Int} {i:Nat} (h:i<l.length):riseF l lo hi i=if riseBad l lo hi i=true then false else riseF l lo hi (i+1):=by rw[riseF,if_pos h]
theorem ruF_p {l:List Rul} {i:Nat} (h:i<l.length):ruF l i=if ruB l i=true then false else ruF l (i+1):=by rw[ruF,if_pos h]
theorem usF9_p {r:Rlm} {i:Nat} (h:i<r.usances.length):usF9 r i=if usB9 r (r.usances.getD i default)=true then 1 else if usI (r.usances.take i) (r.usances.getD i default) 0=true then 5 else usF9 r (i+1):=by rw[usF9,if_pos h]
theorem usF_p {r:Rlm} {i:Nat} (h:i<r.usances.length):usF r i=if usBad r (r.usances.getD i default)=true then 1 else if usI (r.usances.take i) (r.usances.getD i default) 0=true then 5 else usF r (i+1):=by rw[usF,if_pos h]
theorem rtF9_p {r:Rlm} {i:Nat} (h:i<r.rates.length):rtF9 r i=if rtB9 r (r.rates.getD i default)=true then false else rtF9 r (i+1):=by rw[rtF9,if_pos h]
theorem rtF_p {r:Rlm} {i:Nat} (h:i<r.rates.length):rtF r i=if rtBad r (r.rates.getD i default)=true then false else rtF r (i+1):=by rw[rtF,if_pos h]
theorem htF9_p {r:Rlm} {i:Nat} (h:i<r.halts.length):htF9 r i=if htB9 r (r.halts.getD i default)=true then false else htF9 r (i+1):=by rw[htF9,if_pos h]
theorem htF_p {r:Rlm} {i:Nat} (h:i<r.halts.length):htF r i=if htBad r (r.halts.getD i default)=true then false else htF r (i+1):=by rw[htF,if_pos h]
theorem riseF_all {l:List Int} {lo hi:Int} :∀(k i:Nat),l.length-i=k→riseF l lo hi i=true→∀j,i≤j→j<l.length→lo≤l.getD j default∧l.getD j default≤hi:=by
 intro k
 induction k with
 |zero=>intro i hk h j h1 h2;omega
 |succ k ih=>
  intro i hk h j h1 h2
  rw[riseF,if_pos (by omega)]at h
  split at h
  ·cases h
  ·rename_i hb
   simp only[riseBad,Bool.or_eq_true,Bool.and_eq_true,decide_eq_true_eq]at hb
   by_cases e:j=i
   ·subst e;omega
   ·exact ih (i+1) (by omega) h j (by omega) h2
theorem riseF_mono {l:List Int} {lo hi lo' hi':Int} :∀(k i:Nat),l.length-i=k→riseF l lo hi i=true→(∀j,i≤j→j<l.length→lo'≤l.getD j default∧l.getD j default≤hi')→riseF l lo' hi' i=true:=by
 intro k
 induction k with
 |zero=>intro i hk h h2;rw[riseF,if_neg (by omega)]
 |succ k ih=>
  intro i hk h h2
  rw[riseF,if_pos (by omega)]at h⊢
  split at h
  ·cases h
  ·rename_i hb
   have h3:=h2 i (by omega) (by omega)
   rw[if_neg (by simp only[riseBad,Bool.or_eq_true,Bool.and_eq_true,decide_eq_true_eq]at hb⊢;omega)]
   exact ih (i+1) (by omega) h fun j h1 h4=>h2 j (by omega) h4
theorem fstF_all {l:List Int} :∀(k i:Nat),l.length-i=k→(fstF l i=true↔∀j,i≤j→j<l.length→fstB (l.getD j default)=false):=by
 intro k
 induction k with
 |zero=>intro i hk;rw[fstF,if_neg (by omega)];exact ⟨fun _ j h1 h2=>by omega,fun _=>rfl⟩
 |succ k ih=>
  intro i hk
  rw[fstF,if_pos (by omega)]
  cases hb:fstB (l.getD i default)with
  |true=>exact ⟨fun h=>by simp at h,fun h=>by rw[h i (by omega) (by omega)]at hb;cases hb⟩
  |false=>
   rw[if_neg (by simp),ih (i+1) (by omega)]
   exact ⟨fun h j h1 h2=>by
    by_cases e:j=i
    ·subst e;exact hb
    ·exact h j (by omega) h2,fun h j h1 h2=>h j (by omega) h2⟩
theorem feastF_all {l:List Int} :∀(k i:Nat),l.length-i=k→(feastF l i=true↔∀j,i≤j→j<l.length→feastB (l.getD j default)=false):=by
 intro k
 induction k with
 |zero=>intro i hk;rw[feastF,if_neg (by omega)];exact ⟨fun _ j h1 h2=>by omega,fun _=>rfl⟩
 |succ k ih=>
  intro i hk
  rw[feastF,if_pos (by omega)]
  cases hb:feastB (l.getD i default)with
  |true=>exact ⟨fun h=>by simp at h,fun h=>by rw[h i (by omega) (by omega)]at hb;cases hb⟩
  |false=>
   rw[if_neg (by simp),ih (i+1) (by omega)]
   exact ⟨fun h j h1 h2=>by
    by_cases e:j=i
    ·subst e;exact hb
    ·exact h j (by omega) h2,fun h j h1 h2=>h j (by omega) h2⟩
theorem wrap_small {n:Int} (h0:0≤n) (h1:n≤2000):IntKind.i64.wrap n=n:=by
 have e:n % 18446744073709551616=n:=Int.emod_eq_of_lt h0 (by omega)
 show (if (IntKind.i64.signed&&decide (n % 18446744073709551616≥9223372036854775808))=true then n % 18446744073709551616-18446744073709551616 else n % 18446744073709551616)=n
 rw[e,decide_eq_false (by omega),Bool.and_false,if_neg (by simp)]
theorem td_pos {n:Int} (h:0≤n):n.tdiv 100=n/100∧n.tmod 100=n % 100:=⟨Int.tdiv_eq_ediv_of_nonneg h,Int.tmod_eq_emod_of_nonneg h⟩
theorem cityR_eq (r:Rlm) (c:Cty):cityR r c=cityV r c:=by
 rw[Bool.eq_iff_iff]
 have key:(fstF c.feasts 0=true∧riseF c.feasts 0 2000 0=true)↔(feastF c.feasts 0=true∧riseF c.feasts 101 1231 0=true):=by
  constructor
  ·rintro ⟨h1,h2⟩
   have a1:=(fstF_all _ 0 rfl).1 h1
   have a2:=riseF_all _ 0 rfl h2
   have a3:∀j,0≤j→j<c.feasts.length→feastB (c.feasts.getD j default)=false∧101≤c.feasts.getD j default∧c.feasts.getD j default≤1231:=fun j hj hl=>by
    have b1:=a1 j hj hl
    have b2:=a2 j hj hl
    obtain ⟨e1,e2⟩:=td_pos b2.1
    simp only[fstB,e1,e2,Bool.or_eq_false_iff,Bool.not_eq_false']at b1
    rw[wrap_small (by omega) (by omega),wiV_t,wiV_t]at b1
    refine ⟨?_,by omega,by omega⟩
    simp only[feastB,e2,Bool.or_eq_false_iff,decide_eq_false_iff_not]
    omega
   exact ⟨(feastF_all _ 0 rfl).2 fun j h h'=>(a3 j h h').1,riseF_mono _ 0 rfl h2 fun j h h'=>(a3 j h h').2⟩
  ·rintro ⟨h1,h2⟩
   have a1:=(feastF_all _ 0 rfl).1 h1
   have a2:=riseF_all _ 0 rfl h2
   refine ⟨(fstF_all _ 0 rfl).2 fun j h h'=> ?_,riseF_mono _ 0 rfl h2 fun j h h'=>by have:=a2 j h h';omega⟩
   have b1:=a1 j h h'
   have b2:=a2 j h h'
   obtain ⟨e1,e2⟩:=td_pos (show 0≤c.feasts.getD j default by omega)
   simp only[feastB,e2,Bool.or_eq_false_iff,decide_eq_false_iff_not]at b1
   simp only[fstB,e1,e2,Bool.or_eq_false_iff,Bool.not_eq_false']
   rw[wrap_small (by omega) (by omega),wiV_t,wiV_t]
   omega
 have h1:wiV c.ord 0 ((r.orders.length:Int)-1)=inV c.ord r.orders.length:=wi_in
 have h2:wiV c.cur 0 ((r.currencies.length:Int)-1)=inV c.cur r.currencies.length:=wi_in
 unfold cityR cityV cityBad
 rw[h1,h2]
 generalize inV c.ord r.orders.length=b1
 generalize inV c.cur r.currencies.length=b2
 generalize decide ((60:Int)<c.feasts.length)=b3
 generalize decide ((200:Int)<c.shut.length)=b4
 generalize riseF c.rest 0 6 0=q1
 generalize riseF c.shut 0 100000 0=q2
 revert key
 generalize fstF c.feasts 0=p1
 generalize riseF c.feasts 0 2000 0=p2
 generalize feastF c.feasts 0=p3
 generalize riseF c.feasts 101 1231 0=p4
 intro key
 cases b1<;>cases b2<;>cases b3<;>cases b4<;>cases p1<;>cases p2<;>cases p3<;>cases p4<;>first|(exfalso;revert key;decide)|(cases q1<;>cases q2<;>decide)
theorem firmR_eq (r:Rlm) (f:Frm):firmR r f=firmV r f:=by rw[firmR,firmV,wi_in,wi_in]
theorem grF_eq {l:List Int} :∀(k i:Nat),l.length-i=k→grF l i=gradeF l i:=by
 intro k
 induction k with
 |zero=>intro i hk;rw[grF,gradeF,if_neg (by omega),if_neg (by omega)]
 |succ k ih=>intro i hk;rw[grF_p (by omega),gradeF_p (by omega),ih (i+1) (by omega),wi_in' (m:=9) (n:=10) rfl]
theorem odF_eq {l:List Cho} :∀(k i:Nat),l.length-i=k→odF l i=(choF l i&&riseF (l.map fun c=>c.ask) 0 21 i):=by
 intro k
 induction k with
 |zero=>intro i hk;rw[odF,choF,riseF,if_neg (by omega),if_neg (by omega),if_neg (by rw[List.length_map];omega)];rfl
 |succ k ih=>
  intro i hk
  rw[odF_p (by omega),choF_p (by omega),riseF_p (l:=l.map fun c=>c.ask) (by rw[List.length_map];omega),ih (i+1) (by omega)]
  have hr:riseBad (l.map fun c=>c.ask) 0 21 i=(!wiV (l.getD i default).ask 0 21||(decide ((0:Int)<i)&&decide ((l.getD i default).ask≤(l.getD ((i:Int)-1).toNat default).ask))):=by
   rw[riseBad,getD_map' (by omega),getD_map' (by omega),Bool.eq_iff_iff]
   simp only[wiV,Bool.or_eq_true,Bool.and_eq_true,Bool.not_eq_true',Bool.and_eq_false_iff,decide_eq_false_iff_not,decide_eq_true_eq]
   omega
  rw[hr,odB,wi_in' (m:=4) (n:=5) rfl]
  cases wiV (l.getD i default).ask 0 21<;>cases inV (l.getD i default).by_ 5<;>cases (decide ((0:Int)<i)&&decide ((l.getD i default).ask≤(l.getD ((i:Int)-1).toNat default).ask))<;>simp
theorem ruF_eq {l:List Rul} :∀(k i:Nat),l.length-i=k→ruF l i=riseF (l.map fun c=>c.ask) 0 21 i:=by
 intro k
 induction k with
 |zero=>intro i hk;rw[ruF,riseF,if_neg (by omega),if_neg (by rw[List.length_map];omega)]
 |succ k ih=>
  intro i hk
  rw[ruF_p (by omega),riseF_p (l:=l.map fun c=>c.ask) (by rw[List.length_map];omega),ih (i+1) (by omega)]
  have hr:riseBad (l.map fun c=>c.ask) 0 21 i=ruB l i:=by
   rw[riseBad,getD_map' (by omega),getD_map' (by omega),Bool.eq_iff_iff]
   simp only[ruB,wiV,Bool.or_eq_true,Bool.and_eq_true,Bool.not_eq_true',Bool.and_eq_false_iff,decide_eq_false_iff_not,decide_eq_true_eq]
   omega
  rw[hr]
theorem orderR_eq (o:Od):orderR o=orderV o:=by
 rw[orderR,orderV,odF_eq _ 0 rfl,ruF_eq _ 0 rfl]
 cases choF o.choices 0<;>cases riseF (o.choices.map fun c=>c.ask) 0 21 0<;>simp
theorem usB_eq (r:Rlm) (u:Us):usB9 r u=usBad r u:=by
 rw[Bool.eq_iff_iff]
 simp only[usB9,usBad,wi_in,Bool.or_eq_true,Bool.not_eq_true',decide_eq_true_eq]
 rw[wiV_f]
 grind
theorem usF_eq {r:Rlm} :∀(k i:Nat),r.usances.length-i=k→usF9 r i=usF r i:=by
 intro k
 induction k with
 |zero=>intro i hk;rw[usF9,usF,if_neg (by omega),if_neg (by omega)]
 |succ k ih=>intro i hk;rw[usF9_p (by omega),usF_p (by omega),ih (i+1) (by omega),usB_eq]
theorem rtB_eq (r:Rlm) (x:Rt):rtB9 r x=rtBad r x:=by
 rw[Bool.eq_iff_iff]
 simp only[rtB9,rtBad,wi_in,inV,wiV,Bool.or_eq_true,Bool.not_eq_true',Bool.and_eq_false_iff,decide_eq_false_iff_not,decide_eq_true_eq]
 omega
theorem htB_eq (r:Rlm) (x:Ht):htB9 r x=htBad r x:=by
 rw[Bool.eq_iff_iff]
 simp only[htB9,htBad,wi_in,inV,wiV,Bool.or_eq_true,Bool.not_eq_true',Bool.and_eq_false_iff,decide_eq_false_iff_not,decide_eq_true_eq]
 omega
theorem rtF_eq {r:Rlm} :∀(k i:Nat),r.rates.length-i=k→rtF9 r i=rtF r i:=by
 intro k
 induction k with
 |zero=>intro i hk;rw[rtF9,rtF,if_neg (by omega),if_neg (by omega)]
 |succ k ih=>intro i hk;rw[rtF9_p (by omega),rtF_p (by omega),ih (i+1) (by omega),rtB_eq]
theorem htF_eq {r:Rlm} :∀(k i:Nat),r.halts.length-i=k→htF9 r i=htF r i:=by
 intro k
 induction k with
 |zero=>intro i hk;rw[htF9,htF,if_neg (by omega),if_neg (by omega)]
 |succ k ih=>intro i hk;rw[htF9_p (by omega),htF_p (by omega),ih (i+1) (by omega),htB_eq]
theorem orE_assoc (a b c:Int):orE (orE a b) c=orE a (orE b c):=by
 unfold orE;split<;>simp_all
theorem realmR_eq (r:Rlm):realmR r=realmE r:=by
 have e1:(fun i=>cityR r (r.cities.getD i default))=fun i=>cityV r (r.cities.getD i default):=funext fun i=>cityR_eq _ _
 have e2:(fun i=>firmR r (r.firms.getD i default))=fun i=>firmV r (r.firms.getD i default):=funext fun i=>firmR_eq _ _
 have e3:(fun i=>orderR (r.orders.getD i default))=fun i=>orderV (r.orders.getD i default):=funext fun i=>orderR_eq _
 rw[realmR,citiesR,orE_assoc,firmsR,ordersR,usE9,restE9,realmE,usE,restE,e1,e2,e3,grF_eq _ 0 rfl,usF_eq _ 0 rfl,rtF_eq _ 0 rfl,htF_eq _ 0 rfl]
 congr 2
 split
 ·rfl
 ·split
  ·rfl
  ·rfl
end Go.Gh
namespace Go.Gh
open Go Go.Proofs
set_option maxRecDepth 1000000
set_option maxHeartbeats 2000000
set_option linter.unusedSimpArgs false
set_option linter.unusedVariables false
set_option linter.unnecessarySimpa false
open Go.RowKit
theorem span_all {s:ByteArray} :∀(k i:Nat),s.size-i=k→i≤s.size→(∀j,i≤j→j<s.size→digit (byteAt s j)=true)→span digit s i=s.size:=by
 intro k
 induction k with
 |zero=>intro i hk hi h;rw[span,if_neg (by omega)];omega
 |succ k ih=>intro i hk hi h;rw[span,if_pos (by omega),if_pos (h i (by omega) (by omega))];exact ih (i+1) (by omega) (by omega) fun j h1 h2=>h j (by omega) h2
theorem digit_t {c:Int} :digit c=true↔48≤c∧c≤57:=by simp[digit]
theorem numVal_ge {s:ByteArray} :∀(k i:Nat) (n:Int),s.size-i=k→0≤n→(∀j,i≤j→j<s.size→digit (byteAt s j)=true)→n≤numVal s i n:=by
 intro k
 induction k with
 |zero=>intro i n hk hn h;rw[numVal,if_neg (by omega)];omega
 |succ k ih=>
  intro i n hk hn h
  have hd:=digit_t.1 (h i (by omega) (by omega))
  rw[numVal,if_pos (by omega)]
  have:=ih (i+1) (10*n+(byteAt s i-48)) (by omega) (by omega) fun j h1 h2=>h j (by omega) h2
  omega
structure NumI (s:ByteArray) (i:Nat) (n:Int):Prop where
 le:i≤s.size
 pos:0≤n
 few:n≤10995116277779
 eq:numVal s 0 0=numVal s i n
 dig:∀j,j<i→digit (byteAt s j)=true
 low:1≤i→byteAt s 0≠48→(10:Int)^(i-1)≤n
theorem NumI.zero (s:ByteArray):NumI s 0 0:=⟨Nat.zero_le _,by omega,by omega,rfl,fun j h=>by omega,fun h=>by omega⟩
theorem NumI.step {s:ByteArray} {i:Nat} {n:Int} (h:NumI s i n) (hi:i<s.size) (hd:digit (byteAt s i)=true) (hn:n≤1099511627776):NumI s (i+1) (10*n+byteAt s i-48):=by
 have hb:=digit_t.1 hd
 have h1:=h.pos
 refine ⟨by omega,by omega,by omega,?_,fun j hj=> ?_,fun _ h0=> ?_⟩
 ·rw[h.eq,numVal,if_pos hi,show 10*n+(byteAt s i-48)=10*n+byteAt s i-48 by omega]
 ·by_cases e:j=i
  ·subst e;exact hd
  ·exact h.dig j (by omega)
 ·by_cases e:i=0
  ·subst e;simp;omega
  ·have h2:=h.low (by omega) h0
   have e2:(10:Int)^(i+1-1)=10^(i-1)*10:=by
    rw[←Int.pow_succ];congr 1;omega
   rw[e2];omega
theorem num_bad {s:ByteArray} (h:numBad s=true):numV s=0∧numOk s=false:=by
 rw[numV,numOk,h];exact ⟨rfl,rfl⟩
theorem num_notdig {s:ByteArray} {i:Nat} (hi:i<s.size) (h:digit (byteAt s i)=false):numBad s=true:=by
 cases hb:numBad s with
 |true=>rfl
 |false=>
  have:=digit_of hb hi
  rw[digit_t.2 this]at h;cases h
theorem num_big {s:ByteArray} {i:Nat} {n:Int} (h:NumI s i n) (hn:1099511627776<n):numV s=0∧numOk s=false:=by
 cases hb:numBad s with
 |true=>exact num_bad hb
 |false=>
  have hg:=numVal_ge (s:=s) _ i n rfl h.pos fun j _ h2=>digit_t.2 (digit_of hb h2)
  rw[←h.eq]at hg
  rw[numV,numOk,hb,decide_eq_true (show (1099511627776:Int)<numVal s 0 0 by omega),if_neg (by simp),if_pos (by omega)]
  exact ⟨rfl,rfl⟩
theorem num_end {s:ByteArray} {n:Int} (h:NumI s s.size n) (h1:1≤s.size) (h2:s.size≤1∨byteAt s 0≠48) (h3:n≤1099511627776):numV s=n∧numOk s=true:=by
 have e:numVal s 0 0=n:=by rw[h.eq,numVal,if_neg (by omega)]
 have hz:s≠⟨#[]⟩:=fun e=>by subst e;exact absurd h1 (by decide)
 have hs:(s.size:Int)≤13:=by
  by_cases hq:s.size≤1
  ·omega
  ·have hl:=h.low h1 (h2.resolve_left hq)
   by_cases hw:s.size≤13
   ·omega
   ·have hp:(10:Int)^13≤10^(s.size-1):=by
     have:(10:Nat)^13≤10^(s.size-1):=Nat.pow_le_pow_right (by omega) (by omega)
     exact_mod_cast this
    have:(10:Int)^13=10000000000000:=by decide
    omega
 have hb:numBad s=false:=by
  simp only[numBad,Bool.or_eq_false_iff,Bool.and_eq_false_iff,Bool.not_eq_false',decide_eq_false_iff_not,decide_eq_true_eq]
  refine ⟨⟨⟨hz,span_all _ 0 rfl (by omega) fun j _ hj=>h.dig j hj⟩,?_⟩,by omega⟩
  rcases h2 with h2|h2
  ·by_cases h0:byteAt s 0=48
   ·right
    obtain ⟨d⟩:=s
    have hsz:d.size=1:=by have:d.size≤1:=h2;have:1≤d.size:=h1;omega
    obtain ⟨x,hx⟩:=Array.size_eq_one_iff.1 hsz
    subst hx
    have:x=48:=by
     have h0:(x.toNat:Int)=48:=h0
     exact UInt8.toNat_inj.1 (by show x.toNat=48;omega)
    subst this;rfl
   ·exact .inl h0
  ·exact .inl h2
 rw[numV,numOk,hb,e,if_neg (by simp),if_neg (by omega),decide_eq_false (show ¬(1099511627776:Int)<n by omega)]
 exact ⟨rfl,rfl⟩
theorem rnum_ok (s:ByteArray) (hs:s.size≤9223372036854775807):GC Tryz.prog 38 [sG s] (.tup [iG (numV s),bG (numOk s)]):=by
 refine gc_of_gk Tryz.func38 ?_
 refine gk_region env false [] [0,2,3] ?_
 refine gk_region env false [] [0,2,3,4] ?_
 refine gk_region env false [] [0,2,3,4,5] ?_
 refine gk_loop (α:=Nat×Int) (fun x=>NumI s x.1 x.2) (fun x=>[(5,iG x.1),(4,iG x.2)]) (fun _=>[]) (fun x=>s.size-x.1) (0,0) (NumI.zero s) ?_ (hp:=by simp only[AllP];repeat' first|exact trivial|exact EntL.refl _|exact BEntL.refl _|exact rfl|omega|apply And.intro|intro _)
 rintro ⟨i,n⟩ hI
 dsimp only at*
 have hI1:=hI.le
 have hI2:=hI.few
 refine gk_region env false [] [0,2,3,4,5,9] ?_
 refine gk_ifd (fun c1=> ?_) (fun c1=> ?_)
 ·try simp only[toN]at c1
  refine gk_region env false [.call (rdigit_ok (byteAt s i))] [0,2,3,4,5,20] ?_
  refine gk_if (fun c2=> ?_) (fun c2=> ?_)
  ·try simp only[bb,toN]at c2
   refine gk_region env false [] [0,2,3,4,5] ?_
   refine gk_ret env ?_
   have hr:numV s=0∧numOk s=false:=by
    rcases c2 with h|h
    ·exact num_bad (num_notdig (by omega) h)
    ·exact num_big hI h
   rw[hr.1,hr.2];rfl
  ·try simp only[bb,toN]at c2
   have hd:=digit_t.1 c2.1
   have hp:=hI.pos
   refine gk_region env false [] [0,2,3,4,5] ?_
   refine gk_region env false [] [0,2,3,4,5] ?_
   refine gk_round ((i+1,10*n+byteAt s i-48)) ?_ (hp:=by simp only[AllP];repeat' first|exact trivial|exact EntL.refl _|exact BEntL.refl _|exact rfl|omega|apply And.intro|intro _)
   exact hI.step (by omega) c2.1 (by omega)
 ·try simp only[toN]at c1
  obtain rfl:i=s.size:=by have:=hI.le;omega
  refine gk_region env false [] [2,3,4,45] ?_
  refine gk_if (fun c3=> ?_) (fun c3=> ?_)
  ·try simp only[bb,toN]at c3
   refine gk_region env false [] [2,3,4] ?_
   refine gk_ret env ?_
   have hr:numV s=0∧numOk s=false:=by
    rcases c3 with (h|⟨h1,h2⟩)|h
    ·refine num_bad ?_
     have e:s=⟨#[]⟩:=ba_nil.2 (by omega)
     rw[numBad,decide_eq_true e];rfl
    ·refine num_bad ?_
     have e:s≠⟨#[48]⟩:=fun e=>by rw[e]at h1;exact absurd h1 (by decide)
     rw[numBad,decide_eq_true h2,decide_eq_false e];simp
    ·exact num_big hI h
   rw[hr.1,hr.2];rfl
  ·try simp only[bb,toN]at c3
   refine gk_region env false [] [2,3] ?_
   refine gk_ret env ?_
   have hr:=num_end hI (by omega) (by rcases c3.1.2 with h|h;exact .inl (by omega);exact .inr h) c3.2
   rw[hr.1,hr.2];rfl
def fieldR (p:Pn) (f:ByteArray):Int:=if 0≤atF p f∧atF p f<p.texts.length then atF p f else-1
theorem fieldR_lacks (p:Pn) (f:ByteArray):lacks p f=decide (fieldR p f<0):=by
 unfold lacks fieldR
 split
 ·rename_i h
  rw[decide_eq_false (show ¬atF p f<0 by omega),decide_eq_false (show ¬(p.texts.length:Int)≤atF p f by omega)];rfl
 ·rw[decide_eq_true (show (-1:Int)<0 by omega)]
  by_cases h:atF p f<0
  ·rw[decide_eq_true h];rfl
  ·rw[decide_eq_true (show (p.texts.length:Int)≤atF p f by omega)];simp
theorem fieldR_at {p:Pn} {f:ByteArray} (h:¬fieldR p f<0):fieldR p f=atF p f∧0≤atF p f∧atF p f<p.texts.length:=by
 unfold fieldR at h⊢
 split at h
 ·rename_i h1;rw[if_pos h1];exact ⟨rfl,h1.1,h1.2⟩
 ·omega
theorem field33_ok (p:Pn) (f:ByteArray) (h1:p.names.length≤1000) (h2:p.texts.length≤1000):GC Tryz.prog 177 [pnG p,sG f] (iG (fieldR p f)):=by
 refine gc_of_gk Tryz.func177 ?_
 refine gk_region env false [] [1,2,4] ?_
 refine gk_box 0 ?_
 refine gk_region env false [] [1,2,4,5] ?_
 refine gk_loop (α:=Nat) (fun i=>i≤p.names.length∧atF p f=findI (fun x=>decide (x=f)) p.names i) (fun i=>[(5,iG i)]) (fun _=>[]) (fun i=>p.names.length-i) 0 ⟨Nat.zero_le _,rfl⟩ ?_ (hp:=by simp only[AllP];repeat' first|exact trivial|exact EntL.refl _|exact BEntL.refl _|exact rfl|omega|apply And.intro|intro _)
 rintro i ⟨hi,he⟩
 refine gk_region env false [] [1,2,4,5,10] ?_
 refine gk_ifd (fun c1=> ?_) (fun c1=> ?_)
 ·try simp only[toN]at c1
  refine gk_region env false [] [1,2,4,5,19] ?_
  refine gk_ifd (fun c2=> ?_) (fun c2=> ?_)
  ·try simp only[toN]at c2
   refine gk_region env false [] [1,2,4,5,24] ?_
   refine gk_ifd (fun c3=> ?_) (fun c3=> ?_)
   ·try simp only[toN]at c3
    refine gk_region env false [] [1,2,4,5] ?_
    refine gk_ret env ?_
    have ha:atF p f=i:=by rw[he,findI,if_pos (by omega),if_pos (by simpa using c2)]
    rw[fieldR,ha,if_pos (by omega)];rfl
   ·try simp only[toN]at c3
    refine gk_region env false [] [1,2,4,5] ?_
    refine gk_ret env ?_
    have ha:atF p f=i:=by rw[he,findI,if_pos (by omega),if_pos (by simpa using c2)]
    rw[fieldR,ha,if_neg (by omega)];rfl
  ·try simp only[toN]at c2
   refine gk_region env false [] [1,2,4,5] ?_
   refine gk_round (i+1) ?_ (hp:=by simp only[AllP];repeat' first|exact trivial|exact EntL.refl _|exact BEntL.refl _|exact rfl|omega|apply And.intro|intro _)
   refine ⟨by omega,he.trans ?_⟩
   rw[findI,if_pos (by omega),if_neg (by simpa using c2)]
 ·try simp only[toN]at c1
  refine gk_region env false [] [4] ?_
  refine gk_ret env ?_
  have ha:atF p f= -1:=by rw[he,findI,if_neg (by omega)]
  rw[fieldR,ha,if_neg (by omega)];rfl
def fldR (l:List Pn) (k f:ByteArray) (i:Nat):Option (List ByteArray):=
 if i<l.length then
  if (l.getD i default).kind=k then if lacks (l.getD i default) f then none else (fldR l k f (i+1)).map fun r=>(l.getD i default).texts.getD (atF (l.getD i default) f).toNat default::r
  else fldR l k f (i+1)
 else some []
termination_by l.length-i
theorem fldR_p {l:List Pn} {k f:ByteArray} {i:Nat} (h:i<l.length):fldR l k f i=if (l.getD i default).kind=k then if lacks (l.getD i default) f then none else (fldR l k f (i+1)).map fun r=>(l.getD i default).texts.getD (atF (l.getD i default) f).toNat default::r else fldR l k f (i+1):=by rw[fldR,if_pos h]
theorem fldR_n {l:List Pn} {k f:ByteArray} {i:Nat} (h:¬i<l.length):fldR l k f i=some []:=by rw[fldR,if_neg h]
theorem fldF_R {l:List Pn} {k f:ByteArray} :∀(n i:Nat) (acc:List ByteArray),l.length-i=n→fldF l k f i acc=(fldR l k f i).map fun r=>acc++r:=by
 intro n
 induction n with
 |zero=>intro i acc h;rw[fldF,if_neg (by omega),fldR_n (by omega)];simp
 |succ n ih=>
  intro i acc h
  rw[fldF,if_pos (by omega),fldR_p (by omega)]
  split
  ·split
   ·rfl
   ·rw[ih (i+1) _ (by omega)]
    cases fldR l k f (i+1)<;>simp
  ·exact ih (i+1) acc (by omega)
theorem fldOk_R (l:List Pn) (k f:ByteArray):fldOk l k f=(fldR l k f 0).isSome:=by
 rw[fldOk,fldF_R _ 0 [] rfl];cases fldR l k f 0<;>rfl
theorem fldV_R (l:List Pn) (k f:ByteArray):fldV l k f=(fldR l k f 0).getD []:=by
 rw[fldV,fldF_R _ 0 [] rfl];cases fldR l k f 0<;>simp
def metBad (d:Dm) (p:Pn):Bool:=
 (!decide (d.op=0)&&decide (fieldR p d.field<0))||((decide (d.op=1)&& !decide (p.texts.getD (fieldR p d.field).toNat default=d.text))||
  ((decide (d.op=2)||decide (d.op=4))&&(!numOk (p.texts.getD (fieldR p d.field).toNat default)||(decide (d.op=2)&&(decide (numV (p.texts.getD (fieldR p d.field).toNat default)<d.lo)||decide (d.hi<numV (p.texts.getD (fieldR p d.field).toNat default)))))))
def metAdd (d:Dm) (p:Pn):Int:=if d.op=2∨d.op=4 then numV (p.texts.getD (fieldR p d.field).toNat default)else 0
def metEnd (d:Dm) (sum:Int) (some_:Bool):Bool:=if d.op=0 then some_ else if d.op=1∨d.op=2 then true else if d.op=4 then decide (d.lo≤sum)&&decide (sum≤d.hi)else false
def metF (d:Dm) (l:List Pn) (i:Nat) (sum:Int) (some_:Bool):Bool:=
 if i<l.length then if (l.getD i default).kind=d.doc then if metBad d (l.getD i default)=true then false else metF d l (i+1) (sum+metAdd d (l.getD i default)) true else metF d l (i+1) sum some_
 else metEnd d sum some_
termination_by l.length-i
theorem metF_p {d:Dm} {l:List Pn} {i:Nat} {sum:Int} {some_:Bool} (h:i<l.length):metF d l i sum some_=if (l.getD i default).kind=d.doc then if metBad d (l.getD i default)=true then false else metF d l (i+1) (sum+metAdd d (l.getD i default)) true else metF d l (i+1) sum some_:=by rw[metF,if_pos h]
theorem metF_n {d:Dm} {l:List Pn} {i:Nat} {sum:Int} {some_:Bool} (h:¬i<l.length):metF d l i sum some_=metEnd d sum some_:=by rw[metF,if_neg h]
end Go.Gh
namespace Go.Gh
open Go Go.Proofs
set_option maxRecDepth 1000000
set_option maxHeartbeats 2000000
set_option linter.unusedSimpArgs false
set_option linter.unusedVariables false
set_option linter.unnecessarySimpa false
open Go.RowKit
theorem drop_cons {α:Type} [Inhabited α] {l:List α} {i:Nat} (h:i<l.length):l.drop i=l.getD i default::l.drop (i+1):=by
 rw[List.drop_eq_getElem_cons h,List.getD_eq_getElem?_getD,List.getElem?_eq_getElem h];rfl
theorem metF_need {d:Dm} {l:List Pn} (h0:d.op=0):∀(k i:Nat) (sum:Int) (s:Bool),l.length-i=k→metF d l i sum s=(s||(l.drop i).any fun p=>decide (p.kind=d.doc)):=by
 intro k
 induction k with
 |zero=>intro i sum s hk;rw[metF_n (by omega),metEnd,if_pos h0,List.drop_eq_nil_of_le (by omega)];simp
 |succ k ih=>
  intro i sum s hk
  rw[metF_p (by omega),drop_cons (l:=l) (i:=i) (by omega),List.any_cons]
  have hb:metBad d (l.getD i default)=false:=by simp[metBad,h0]
  split
  ·rename_i hq
   rw[if_neg (by rw[hb];simp),ih (i+1) _ _ (by omega),decide_eq_true hq];simp
  ·rename_i hq
   rw[ih (i+1) _ _ (by omega),decide_eq_false hq];simp
def allT (t:ByteArray):Option (List ByteArray)→Bool
 |none=>false
 |some r=>r.all fun x=>decide (x=t)
theorem metF_is {d:Dm} {l:List Pn} (h1:d.op=1):∀(k i:Nat) (sum:Int) (s:Bool),l.length-i=k→metF d l i sum s=allT d.text (fldR l d.doc d.field i):=by
 intro k
 induction k with
 |zero=>intro i sum s hk;rw[metF_n (by omega),fldR_n (by omega),metEnd,if_neg (by omega),if_pos (.inl h1)];rfl
 |succ k ih=>
  intro i sum s hk
  rw[metF_p (by omega),fldR_p (by omega)]
  split
  ·rw[fieldR_lacks]
   by_cases hl:fieldR (l.getD i default) d.field<0
   ·have hb:metBad d (l.getD i default)=true:=by rw[metBad,decide_eq_true hl,decide_eq_false (show ¬d.op=0 by omega)];rfl
    rw[if_pos hb,decide_eq_true hl];rfl
   ·have hb:metBad d (l.getD i default)= !decide ((l.getD i default).texts.getD (fieldR (l.getD i default) d.field).toNat default=d.text):=by
     rw[metBad,decide_eq_false hl,decide_eq_true h1,decide_eq_false (show ¬d.op=2 by omega),decide_eq_false (show ¬d.op=4 by omega)];simp
    rw[hb,decide_eq_false hl,if_neg (by simp:¬false=true),ih (i+1) _ _ (by omega),(fieldR_at hl).1]
    cases fldR l d.doc d.field (i+1)with
    |none=>simp[allT]
    |some r=>by_cases hx:(l.getD i default).texts.getD (atF (l.getD i default) d.field).toNat default=d.text<;>simp[allT,hx,-List.getD_eq_getElem?_getD]
  ·exact ih (i+1) _ _ (by omega)
theorem limF_tail {x:ByteArray} {r:List ByteArray} {lo hi:Int} {sm:Bool} :∀(k i:Nat) (acc:Int),r.length-i=k→limF (x::r) lo hi sm (i+1) acc=limF r lo hi sm i acc:=by
 intro k
 induction k with
 |zero=>intro i acc hk;rw[limF,if_neg (by simp;omega)];rw[limF,if_neg (by omega)]
 |succ k ih=>
  intro i acc hk
  have e:(x::r).getD (i+1) default=r.getD i default:=rfl
  have a1:limF (x::r) lo hi sm (i+1) acc=if offLim ((x::r).getD (i+1) default) lo hi sm then none else limF (x::r) lo hi sm (i+1+1) (acc+numV ((x::r).getD (i+1) default)):=by
   rw[limF,if_pos (by simp;omega)]
  have a2:limF r lo hi sm i acc=if offLim (r.getD i default) lo hi sm then none else limF r lo hi sm (i+1) (acc+numV (r.getD i default)):=by rw[limF,if_pos (by omega)]
  rw[a1,a2,e,ih (i+1) _ (by omega)]
theorem limF_cons {x:ByteArray} {r:List ByteArray} {lo hi acc:Int} {sm:Bool} :limF (x::r) lo hi sm 0 acc=if offLim x lo hi sm then none else limF r lo hi sm 0 (acc+numV x):=by
 have a1:limF (x::r) lo hi sm 0 acc=if offLim ((x::r).getD 0 default) lo hi sm then none else limF (x::r) lo hi sm (0+1) (acc+numV ((x::r).getD 0 default)):=by rw[limF,if_pos (by simp)]
 rw[a1,limF_tail _ 0 _ rfl];rfl
def limT (lo hi:Int) (sm:Bool) (acc:Int):Option (List ByteArray)→Bool
 |none=>false
 |some r=>match limF r lo hi sm 0 acc with
  |none=>false
  |some a=> !sm||(decide (lo≤a)&&decide (a≤hi))
theorem metF_lim {d:Dm} {l:List Pn} {sm:Bool} (h:(d.op=2∧sm=false)∨(d.op=4∧sm=true)):∀(k i:Nat) (sum:Int) (s:Bool),l.length-i=k→metF d l i sum s=limT d.lo d.hi sm sum (fldR l d.doc d.field i):=by
 intro k
 induction k with
 |zero=>
  intro i sum s hk
  rw[metF_n (by omega),fldR_n (by omega)]
  have e:limF [] d.lo d.hi sm 0 sum=some sum:=by rw[limF,if_neg (by simp)]
  simp only[limT,e]
  rcases h with ⟨h,rfl⟩|⟨h,rfl⟩<;>simp[metEnd,h]
 |succ k ih=>
  intro i sum s hk
  rw[metF_p (by omega),fldR_p (by omega)]
  split
  ·rw[fieldR_lacks]
   by_cases hl:fieldR (l.getD i default) d.field<0
   ·have hb:metBad d (l.getD i default)=true:=by rw[metBad,decide_eq_true hl,decide_eq_false (show ¬d.op=0 by omega)];rfl
    rw[if_pos hb,decide_eq_true hl];rfl
   ·have hb:metBad d (l.getD i default)=offLim ((l.getD i default).texts.getD (fieldR (l.getD i default) d.field).toNat default) d.lo d.hi sm:=by
     rw[metBad,decide_eq_false hl,decide_eq_false (show ¬d.op=1 by omega),offLim]
     rcases h with ⟨h,rfl⟩|⟨h,rfl⟩
     ·rw[decide_eq_true h];simp
     ·rw[decide_eq_true h,decide_eq_false (show ¬d.op=2 by omega)];simp
    have ha:metAdd d (l.getD i default)=numV ((l.getD i default).texts.getD (fieldR (l.getD i default) d.field).toNat default):=if_pos (by omega)
    rw[hb,ha,decide_eq_false hl,if_neg (by simp:¬false=true),ih (i+1) _ _ (by omega),(fieldR_at hl).1]
    generalize (l.getD i default).texts.getD (atF (l.getD i default) d.field).toNat default=x
    cases fldR l d.doc d.field (i+1)with
    |none=>simp[limT]
    |some r=>
     simp only[limT,Option.map_some]
     rw[limF_cons]
     by_cases hx:offLim x d.lo d.hi sm=true
     ·rw[if_pos hx,if_pos hx]
     ·rw[if_neg hx,if_neg hx]
  ·exact ih (i+1) _ _ (by omega)
theorem metF_bad {d:Dm} {l:List Pn} (h:d.op≠0∧d.op≠1∧d.op≠2∧d.op≠4):∀(k i:Nat) (sum:Int) (s:Bool),l.length-i=k→metF d l i sum s=false:=by
 intro k
 induction k with
 |zero=>intro i sum s hk;rw[metF_n (by omega),metEnd,if_neg h.1,if_neg (by omega),if_neg h.2.2.2]
 |succ k ih=>
  intro i sum s hk
  rw[metF_p (by omega)]
  split
  ·split
   ·rfl
   ·exact ih (i+1) _ _ (by omega)
  ·exact ih (i+1) _ _ (by omega)
theorem metF_eq {d:Dm} {l:List Pn} (h3:d.op≠3):metF d l 0 0 false=metV d l:=by
 unfold metV
 split
 ·rename_i h;rw[metF_need h _ 0 _ _ rfl];rfl
 split
 ·rename_i h
  rw[metF_is h _ 0 _ _ rfl,isV,fldOk_R,fldV_R]
  cases fldR l d.doc d.field 0 with
  |none=>rfl
  |some r=>simp[allT,List.all_eq_not_any_not]
 split
 ·rename_i h
  rw[metF_lim (sm:=false) (.inl ⟨h,rfl⟩) _ 0 _ _ rfl,limV,fldOk_R,fldV_R]
  cases fldR l d.doc d.field 0 with
  |none=>
   simp only[limT,Option.getD_none,Option.isSome_none,Bool.false_and]
   split<;>rfl
  |some r=>
   simp only[limT,Option.getD_some,Option.isSome_some,Bool.true_and]
   cases limF r d.lo d.hi false 0 0<;>rfl
 split
 ·rename_i h
  rw[metF_lim (sm:=true) (.inr ⟨h,rfl⟩) _ 0 _ _ rfl,limV,fldOk_R,fldV_R]
  cases fldR l d.doc d.field 0 with
  |none=>
   simp only[limT,Option.getD_none,Option.isSome_none,Bool.false_and]
   split<;>rfl
  |some r=>
   simp only[limT,Option.getD_some,Option.isSome_some,Bool.true_and]
   cases limF r d.lo d.hi true 0 0<;>rfl
 ·exact metF_bad (by omega) _ 0 _ _ rfl
structure SumI (i:Nat) (sum:Int):Prop where
 lo:0≤sum
 hi:sum≤i*1099511627776
theorem numV_b (s:ByteArray) (h:numOk s=true):0≤numV s∧numV s≤1099511627776:=by
 simp only[numOk,Bool.and_eq_true,Bool.not_eq_true',decide_eq_false_iff_not]at h
 have hb:=h.1
 rw[numV,hb,if_neg (by simp),if_neg h.2]
 have:=numVal_ge (s:=s) _ 0 0 rfl (by omega) fun j _ hj=>digit_t.2 (digit_of hb hj)
 omega
theorem mb_f {d:Dm} {p:Pn} (h4:d.op=0∨0≤fieldR p d.field) (h5:d.op≠1∨p.texts.getD (fieldR p d.field).toNat default=d.text) (h6:(d.op≠2∧d.op≠4)∨(numOk (p.texts.getD (fieldR p d.field).toNat default)=true∧(d.op≠2∨(d.lo≤numV (p.texts.getD (fieldR p d.field).toNat default)∧numV (p.texts.getD (fieldR p d.field).toNat default)≤d.hi)))):metBad d p=false:=by
 unfold metBad
 generalize p.texts.getD (fieldR p d.field).toNat default=x at h5 h6⊢
 generalize fieldR p d.field=q at h4⊢
 cases hb:numOk x with
 |true=>
  simp only[Bool.or_eq_false_iff,Bool.and_eq_false_iff,Bool.not_eq_false',Bool.not_true,decide_eq_false_iff_not,decide_eq_true_eq]
  refine ⟨by omega,?_,?_⟩
  ·rcases h5 with h|h
   ·exact .inl h
   ·exact .inr h
  ·rcases h6 with h|⟨_,h⟩
   ·exact .inl ⟨h.1,h.2⟩
   ·right;refine ⟨trivial,?_⟩;omega
 |false=>
  rw[hb]at h6
  have h6:=h6.resolve_right (fun h=>by cases h.1)
  simp only[Bool.or_eq_false_iff,Bool.and_eq_false_iff,Bool.not_eq_false',decide_eq_false_iff_not,decide_eq_true_eq]
  refine ⟨by omega,?_,.inl h6⟩
  rcases h5 with h|h
  ·exact .inl h
  ·exact .inr h
theorem mb_1 {d:Dm} {p:Pn} (h0:d.op≠0) (h:fieldR p d.field<0):metBad d p=true:=by
 rw[metBad,decide_eq_false h0,decide_eq_true h];rfl
theorem mb_2 {d:Dm} {p:Pn} (h0:d.op=1) (h:p.texts.getD (fieldR p d.field).toNat default≠d.text):metBad d p=true:=by
 rw[metBad,decide_eq_true h0,decide_eq_false h];simp
theorem mb_3 {d:Dm} {p:Pn} (h0:d.op=2∨d.op=4) (h:numOk (p.texts.getD (fieldR p d.field).toNat default)=false∨(d.op=2∧(numV (p.texts.getD (fieldR p d.field).toNat default)<d.lo∨d.hi<numV (p.texts.getD (fieldR p d.field).toNat default)))):metBad d p=true:=by
 unfold metBad
 generalize p.texts.getD (fieldR p d.field).toNat default=x at h⊢
 simp only[Bool.or_eq_true,Bool.and_eq_true,Bool.not_eq_true',decide_eq_true_eq]
 exact .inr (.inr ⟨h0,h⟩)
theorem met33_ok (d:Dm) (h3:d.op≠3) (docs:List Pn) (hs:Short docs):GC Tryz.prog 174 [dmG d,rowP docs] (bG (metV d docs)):=by
 have hl:=hs.1.1
 rw[←metF_eq h3]
 refine gc_of_gk Tryz.func174 ?_
 refine gk_region env false [] [1,2,4] ?_
 refine gk_box 0 ?_
 refine gk_region env false [] [1,2,4,13] ?_
 refine gk_ifd (fun c1=> ?_) (fun c1=> ?_)
 ·try simp only[toN]at c1
  exact absurd c1 h3
 ·try simp only[toN]at c1
  refine gk_region env false [] [1,2,4,5] ?_
  refine gk_region env false [] [1,2,4,5,6] ?_
  refine gk_region env false [] [1,2,4,5,6,7] ?_
  refine gk_loop (α:=Nat×Int×Bool) (fun x=>(x.1≤docs.length∧SumI x.1 x.2.1)∧metF d docs 0 0 false=metF d docs x.1 x.2.1 x.2.2) (fun x=>[(7,iG x.1),(5,iG x.2.1),(6,bG x.2.2)]) (fun _=>[]) (fun x=>docs.length-x.1) (0,0,false) ⟨⟨Nat.zero_le _,⟨by simp,by simp⟩⟩,rfl⟩ ?_ (hp:=by simp only[AllP];repeat' first|exact trivial|exact EntL.refl _|exact BEntL.refl _|exact rfl|omega|apply And.intro|intro _)
  rintro ⟨i,sum,sm⟩ ⟨⟨hi,hsm⟩,he⟩
  dsimp only at*
  have hs1:=hsm.lo
  have hs2:=hsm.hi
  refine gk_region env false [] [1,2,4,5,6,7,20] ?_
  refine gk_ifd (fun c2=> ?_) (fun c2=> ?_)
  ·try simp only[toN]at c2
   refine gk_region env false [] [1,2,4,5,6,7,30] ?_
   refine gk_ifn (fun c3=> ?_) (fun c3=> ?_)
   ·try simp only[toN]at c3
    refine gk_region env false [] [1,2,4,5,6,7] ?_
    refine gk_round ((i+1,sum,sm)) ?_ (hp:=by simp only[AllP];repeat' first|exact trivial|exact EntL.refl _|exact BEntL.refl _|exact rfl|omega|apply And.intro|intro _)
    refine ⟨⟨by simp only;omega,⟨by simp only;omega,by simp only;omega⟩⟩,he.trans ?_⟩
    simp only
    rw[metF_p (by omega),if_neg c3]
   ·try simp only[toN]at c3
    refine gk_region env false [] [1,2,4,5,6,7] ?_
    have hat:=hs.1.at_ (i:=i) (by omega)
    have htx:∀t,t∈(docs.getD i default).texts→t.size≤1000:=hs.2 _ (getD_mem (by omega))
    refine gk_region env false [.call (field33_ok (docs.getD i default) d.field hat.1 hat.2)] [1,2,4,5,6,7,8] ?_
    refine gk_region env false [] [1,2,4,5,6,7,8,44] ?_
    refine gk_if (fun c4=> ?_) (fun c4=> ?_)
    ·try simp only[bb,toN]at c4
     refine gk_region env false [] [1,2,4,5,6,7,8] ?_
     refine gk_ret env ?_
     rw[he,metF_p (by omega),if_pos c3,if_pos (mb_1 c4.1 c4.2)];rfl
    ·try simp only[bb,toN]at c4
     refine gk_region env false [] [1,2,4,5,6,7,8,47] ?_
     refine gk_ifd (fun c5=> ?_) (fun c5=> ?_)
     ·try simp only[toN]at c5
      have hfa:=fieldR_at (p:=(docs.getD i default)) (f:=d.field) (by omega)
      refine gk_region env false [] [1,2,4,5,6,7,8,58] ?_
      refine gk_ifn (fun c6=> ?_) (fun c6=> ?_)
      ·try simp only[toN]at c6
       refine gk_region env false [] [1,2,4,5,6,7,8] ?_
       refine gk_ret env ?_
       rw[he,metF_p (by omega),if_pos c3,if_pos (mb_2 c5 c6)];rfl
      ·try simp only[toN]at c6
       refine gk_region env false [] [1,2,4,5,6,7,8,66] ?_
       refine gk_if (fun c7=> ?_) (fun c7=> ?_)
       ·try simp only[bb,toN]at c7
        exfalso;omega
       ·try simp only[bb,toN]at c7
        refine gk_region env false [] [1,2,4,5,6,7] ?_
        refine gk_round ((i+1,sum,true)) ?_ (hp:=by simp only[AllP];repeat' first|exact trivial|exact EntL.refl _|exact BEntL.refl _|exact rfl|omega|apply And.intro|intro _)
        refine ⟨⟨by simp only;omega,⟨by simp only;omega,by simp only;omega⟩⟩,he.trans ?_⟩
        simp only
        have hb:metBad d (docs.getD i default)=false:=mb_f c4 (.inr c6) (.inl c7)
        rw[metF_p (by omega),if_pos c3,if_neg (by rw[hb];simp),show metAdd d (docs.getD i default)=0 from if_neg (by omega),Int.add_zero]
     ·try simp only[toN]at c5
      refine gk_region env false [] [1,2,4,5,6,7,8,66] ?_
      refine gk_if (fun c8=> ?_) (fun c8=> ?_)
      ·try simp only[bb,toN]at c8
       have hfa:=fieldR_at (p:=(docs.getD i default)) (f:=d.field) (by omega)
       have htz:=htx ((docs.getD i default).texts.getD (fieldR (docs.getD i default) d.field).toNat default) (getD_mem (by omega))
       refine gk_region env false [.call (rnum_ok ((docs.getD i default).texts.getD (fieldR (docs.getD i default) d.field).toNat default) (by omega))] [1,2,4,5,6,7,9,10] ?_
       refine gk_region env false [] [1,2,4,5,6,7,9,97] ?_
       refine gk_if (fun c9=> ?_) (fun c9=> ?_)
       ·try simp only[bb,toN]at c9
        refine gk_region env false [] [1,2,4,5,6,7,9] ?_
        refine gk_ret env ?_
        rw[he,metF_p (by omega),if_pos c3,if_pos (mb_3 c8 c9)];rfl
       ·try simp only[bb,toN]at c9
        have hnb:=numV_b ((docs.getD i default).texts.getD (fieldR (docs.getD i default) d.field).toNat default) c9.1
        refine gk_region env false [] [1,2,4,5,6,7] ?_
        refine gk_region env false [] [1,2,4,5,6,7] ?_
        refine gk_round ((i+1,sum+numV ((docs.getD i default).texts.getD (fieldR (docs.getD i default) d.field).toNat default),true)) ?_ (hp:=by simp only[AllP];repeat' first|exact trivial|exact EntL.refl _|exact BEntL.refl _|exact rfl|omega|apply And.intro|intro _)
        refine ⟨⟨by simp only;omega,⟨by simp only;omega,by simp only;omega⟩⟩,he.trans ?_⟩
        simp only
        have hb:metBad d (docs.getD i default)=false:=mb_f c4 (.inl c5) (.inr c9)
        rw[metF_p (by omega),if_pos c3,if_neg (by rw[hb];simp),show metAdd d (docs.getD i default)=numV ((docs.getD i default).texts.getD (fieldR (docs.getD i default) d.field).toNat default)from if_pos c8]
      ·try simp only[bb,toN]at c8
       refine gk_region env false [] [1,2,4,5,6,7] ?_
       refine gk_round ((i+1,sum,true)) ?_ (hp:=by simp only[AllP];repeat' first|exact trivial|exact EntL.refl _|exact BEntL.refl _|exact rfl|omega|apply And.intro|intro _)
       refine ⟨⟨by simp only;omega,⟨by simp only;omega,by simp only;omega⟩⟩,he.trans ?_⟩
       simp only
       have hb:metBad d (docs.getD i default)=false:=mb_f c4 (.inl c5) (.inl (by omega))
       rw[metF_p (by omega),if_pos c3,if_neg (by rw[hb];simp),show metAdd d (docs.getD i default)=0 from if_neg (by omega),Int.add_zero]
  ·try simp only[toN]at c2
   refine gk_region env false [] [2,4,5,6,102] ?_
   refine gk_region env false [] [2,4,5,6,102,103] ?_
   refine gk_ifd (fun c10=> ?_) (fun c10=> ?_)
   ·try simp only[toN]at c10
    refine gk_region env false [] [4] ?_
    refine gk_ret env ?_
    rw[he,metF_n (by omega),metEnd]
    first|(rw[if_pos (by omega)];rfl)|(rw[if_neg (by omega),if_pos (by omega)];rfl)|(rw[if_neg (by omega),if_neg (by omega),if_pos (by omega)];simp[tupG,Bool.cond_eq_ite];done)|(rw[if_neg (by omega),if_neg (by omega),if_neg (by omega)];rfl)
   ·try simp only[toN]at c10
    refine gk_region env false [] [2,4,5,102,106] ?_
    refine gk_ifd (fun c11=> ?_) (fun c11=> ?_)
    ·try simp only[toN]at c11
     refine gk_ifd (fun c12=> ?_) (fun c12=> ?_)
     ·try simp only[toN]at c12
      refine gk_region env false [] [4] ?_
      refine gk_ret env ?_
      rw[he,metF_n (by omega),metEnd]
      first|(rw[if_pos (by omega)];rfl)|(rw[if_neg (by omega),if_pos (by omega)];rfl)|(rw[if_neg (by omega),if_neg (by omega),if_pos (by omega)];simp[tupG,Bool.cond_eq_ite];done)|(rw[if_neg (by omega),if_neg (by omega),if_neg (by omega)];rfl)
     ·try simp only[toN]at c12
      refine gk_region env false [] [2,4,5,109] ?_
      refine gk_ifd (fun c13=> ?_) (fun c13=> ?_)
      ·try simp only[toN]at c13
       refine gk_region env false [] [4] ?_
       refine gk_ret env ?_
       rw[he,metF_n (by omega),metEnd]
       first|(rw[if_pos (by omega)];rfl)|(rw[if_neg (by omega),if_pos (by omega)];rfl)|(rw[if_neg (by omega),if_neg (by omega),if_pos (by omega)];simp[tupG,Bool.cond_eq_ite];done)|(rw[if_neg (by omega),if_neg (by omega),if_neg (by omega)];rfl)
      ·try simp only[toN]at c13
       refine gk_region env false [] [4] ?_
       refine gk_ret env ?_
       rw[he,metF_n (by omega),metEnd]
       first|(rw[if_pos (by omega)];rfl)|(rw[if_neg (by omega),if_pos (by omega)];rfl)|(rw[if_neg (by omega),if_neg (by omega),if_pos (by omega)];simp[tupG,Bool.cond_eq_ite];done)|(rw[if_neg (by omega),if_neg (by omega),if_neg (by omega)];rfl)
    ·try simp only[toN]at c11
     refine gk_region env false [] [2,4,5,102,106] ?_
     refine gk_ifd (fun c14=> ?_) (fun c14=> ?_)
     ·try simp only[toN]at c14
      refine gk_region env false [] [4] ?_
      refine gk_ret env ?_
      rw[he,metF_n (by omega),metEnd]
      first|(rw[if_pos (by omega)];rfl)|(rw[if_neg (by omega),if_pos (by omega)];rfl)|(rw[if_neg (by omega),if_neg (by omega),if_pos (by omega)];simp[tupG,Bool.cond_eq_ite];done)|(rw[if_neg (by omega),if_neg (by omega),if_neg (by omega)];rfl)
     ·try simp only[toN]at c14
      refine gk_region env false [] [2,4,5,109] ?_
      refine gk_ifd (fun c15=> ?_) (fun c15=> ?_)
      ·try simp only[toN]at c15
       refine gk_region env false [] [4] ?_
       refine gk_ret env ?_
       rw[he,metF_n (by omega),metEnd]
       first|(rw[if_pos (by omega)];rfl)|(rw[if_neg (by omega),if_pos (by omega)];rfl)|(rw[if_neg (by omega),if_neg (by omega),if_pos (by omega)];simp[tupG,Bool.cond_eq_ite];done)|(rw[if_neg (by omega),if_neg (by omega),if_neg (by omega)];rfl)
      ·try simp only[toN]at c15
       refine gk_region env false [] [4] ?_
       refine gk_ret env ?_
       rw[he,metF_n (by omega),metEnd]
       first|(rw[if_pos (by omega)];rfl)|(rw[if_neg (by omega),if_pos (by omega)];rfl)|(rw[if_neg (by omega),if_neg (by omega),if_pos (by omega)];simp[tupG,Bool.cond_eq_ite];done)|(rw[if_neg (by omega),if_neg (by omega),if_neg (by omega)];rfl)
end Go.Gh
