/- Walks by the logic of calls, and plain laws (several texts in one). -/
import Derived.Test.YtffffkfcbjobnaaGreatM7
import Derived.KernelRfl
namespace Go.Gh
open Go Go.Proofs
set_option maxRecDepth 1000000
set_option maxHeartbeats 2000000
set_option linter.unusedSimpArgs false
set_option linter.unusedVariables false
set_option linter.unnecessarySimpa false
set_option linter.unusedSectionVars false
variable [PowTab] [ItoaU]
open Go.RowKit
def DEnt (x y:D):Prop:=∀(F:Fz) (w:World) (v:Value),DR F w x v→DR F w y v
theorem DEnt.refl (x:D):DEnt x x:=fun _ _ _ h=>h
theorem DEnt.nil {α:Type} (df:α) (cs:α→List D):DEnt (.sc (.slice none 0 0)) (.row df cs []):=fun F w v h=>by
 cases h
 exact .row df cs [] none 0 0 0 0 (fun _ _=>undef) (fun h=>absurd rfl h) (Nat.zero_le _) (fun e h=>by cases h) (fun i e j x h=>by simp at h) (fun i e j x h=>by simp at h) (fun i e j x h=>by simp at h)
def DEntL:List D→List D→Prop
 | [],[]=>True
 |x::l,y::m=>DEnt x y∧DEntL l m
 |_,_=>False
def DEntLL:List (List D)→List (List D)→Prop
 | [],[]=>True
 |x::l,y::m=>DEntL x y∧DEntLL l m
 |_,_=>False
theorem DEntL.at_:∀ {l m:List D},DEntL l m→l.length=m.length∧∀(j:Nat) y,m[j]? =some y→∃x,l[j]? =some x∧DEnt x y:=by
 intro l
 induction l with
 |nil=>intro m h;cases m with
  |nil=>exact ⟨rfl,fun j y h=>by simp at h⟩
  |cons=>cases h
 |cons x l ih=>intro m h;cases m with
  |nil=>cases h
  |cons y m=>
   obtain ⟨h1,h2⟩:=ih h.2
   refine ⟨by simp[h1],fun j z hz=> ?_⟩
   cases j with
   |zero=>simp at hz;subst hz;exact ⟨x,rfl,h.1⟩
   |succ j=>exact h2 j z (by simpa using hz)
theorem DEntLL.at_:∀ {l m:List (List D)},DEntLL l m→l.length=m.length∧∀(j:Nat) y,m[j]? =some y→∃x,l[j]? =some x∧DEntL x y:=by
 intro l
 induction l with
 |nil=>intro m h;cases m with
  |nil=>exact ⟨rfl,fun j y h=>by simp at h⟩
  |cons=>cases h
 |cons x l ih=>intro m h;cases m with
  |nil=>cases h
  |cons y m=>
   obtain ⟨h1,h2⟩:=ih h.2
   refine ⟨by simp[h1],fun j z hz=> ?_⟩
   cases j with
   |zero=>simp at hz;subst hz;exact ⟨x,rfl,h.1⟩
   |succ j=>exact h2 j z (by simpa using hz)
theorem DEnt.row {α β:Type} {df:α} {cs:α→List D} {xs:List α} {df':β} {cs':β→List D} {ys:List β} (h:DEntLL (rowL cs xs) (rowL cs' ys)):DEnt (.row df cs xs) (.row df' cs' ys):=fun F w v hd=>by
 obtain ⟨hlen,hat⟩:=h.at_
 simp only[rowL,List.length_map]at hlen
 have hel:∀(i:Nat) e',ys[i]? =some e'→∃e,xs[i]? =some e∧DEntL (cs e) (cs' e'):=fun i e' he=>by
  obtain ⟨x,h1,h2⟩:=hat i (cs' e') (by simp[rowL,he])
  simp only[rowL,List.getElem?_map,Option.map_eq_some_iff]at h1
  obtain ⟨e,h3,rfl⟩:=h1
  exact ⟨e,h3,h2⟩
 cases hd with
 |row _ _ _ A c b off es val hA hc hl hw hF hd=>
  rw[hlen]
  refine .row df' cs' ys A c b off es val (fun hy=>hA fun hx=>hy (List.eq_nil_of_length_eq_zero (by rw[←hlen,hx];rfl))) (by omega) (fun e he=> ?_) (fun i e j x a1 a2=> ?_) (fun i e j x a1 a2=> ?_) (fun i e j x a1 a2=> ?_)
  ·obtain ⟨i,hi⟩:=List.getElem?_of_mem he
   obtain ⟨e',h1,h2⟩:=hel i e hi
   rw[←h2.at_.1];exact hl _ (List.mem_of_getElem? h1)
  ·obtain ⟨e',h1,h2⟩:=hel i e a1
   obtain ⟨y,h3,h4⟩:=h2.at_.2 j x a2
   exact hw i e' j y h1 h3
  ·obtain ⟨e',h1,h2⟩:=hel i e a1
   obtain ⟨y,h3,h4⟩:=h2.at_.2 j x a2
   exact hF i e' j y h1 h3
  ·obtain ⟨e',h1,h2⟩:=hel i e a1
   obtain ⟨y,h3,h4⟩:=h2.at_.2 j x a2
   exact h4 F w _ (hd i e' j y h1 h3)
theorem DEnt.ent {x y:D} (h:DEnt x y):Ent (.d x) (.d y):=fun ν F w v hv=>by
 cases hv with|d hd=>exact .d (h F w v hd)
abbrev sInv:ByteArray:=⟨#[105,110,118,111,105,99,101]⟩
abbrev sNo:ByteArray:=⟨#[110,111]⟩
abbrev s7:ByteArray:=⟨#[55]⟩
abbrev s8:ByteArray:=⟨#[56]⟩
abbrev s9:ByteArray:=⟨#[57]⟩
abbrev sX:ByteArray:=⟨#[120]⟩
abbrev sFr:ByteArray:=⟨#[102,114,97,110,99]⟩
abbrev sLy:ByteArray:=⟨#[76,121,111,110]⟩
abbrev sGe:ByteArray:=⟨#[103,101,110,101,118,97]⟩
abbrev sA:ByteArray:=⟨#[65]⟩
abbrev sB:ByteArray:=⟨#[66]⟩
abbrev sC:ByteArray:=⟨#[67]⟩
def exIs (s:ByteArray):List Dm:=[⟨1,sInv,sNo,⟨#[]⟩,⟨#[]⟩,s,0,0⟩]
def exRd (s:ByteArray):List Dc:=[⟨sInv,[⟨sNo,[[s]]⟩]⟩]
def exR:Rlm:=⟨[sFr],[⟨sLy,0,0,[],[],[]⟩],[0],[⟨sA,0,0⟩,⟨sB,0,0⟩,⟨sC,0,0⟩],[⟨sGe,false,[],[]⟩],[],[],[]⟩
def exC:Crd:=⟨0,1,-1,2,0,100,50,0,true,false,0,exIs s7⟩
def exL:List Trn:=[⟨0,10,2,0,60,0,[],exRd s7⟩,⟨1,11,1,0,20,0,exIs s8,[]⟩,⟨0,20,2,0,60,0,[],exRd s8⟩,⟨0,21,2,0,1,0,[],exRd s7⟩,⟨6,22,1,0,130,0,[],[]⟩,⟨6,22,1,0,120,0,[],[]⟩]
theorem is_ok (s:ByteArray):GC Tryz.prog 30 [sG s] (rowD (exIs s)):=by
 refine gc_of_gk Tryz.func30 ?_
 refine gk_region env false [] [0,2] ?_
 refine gk_region env false [.el default dmC (exIs s)] [2] ?_
 refine gk_ret env ?_
 rfl
theorem reads_ok (s:ByteArray):GC Tryz.prog 49 [sG s] (rowDc (exRd s)):=by
 refine gc_of_gk Tryz.func49 ?_
 refine gk_region env false [] [0,2] ?_
 refine gk_region env false [.el default strC [s],.fz,.el default wdC [[s]],.fz,.el default flC [⟨sNo,[[s]]⟩],.fz,.el default dcC (exRd s)] [2] ?_
 refine gk_ret env ?_
 rfl
abbrev nilD:D:= .sc (.slice none 0 0)
def ct0 (s:ByteArray):List D:=[.sc (.string s),.sc (.int .i64 0),.sc (.int .i64 0),nilD,nilD,nilD]
def od0 (s:ByteArray):List D:=[.sc (.string s),.sc (.bool false),nilD,nilD]
def trn0 (t:Trn):List D:=[.sc (.int .i64 t.kind),.sc (.int .i64 t.day),.sc (.int .i64 t.by_),.sc (.int .i64 t.to_),.sc (.int .i64 t.sum),.sc (.int .i64 t.no),(match t.terms with| []=>nilD|_=> .row default dmC t.terms),(match t.docs with| []=>nilD|_=> .row default dcC t.docs)]
theorem dent_trn (t:Trn):DEntL (trn0 t) (trnC t):=by
 obtain ⟨a,b,c,d,e,f,g,h⟩:=t
 refine ⟨DEnt.refl _,DEnt.refl _,DEnt.refl _,DEnt.refl _,DEnt.refl _,DEnt.refl _,?_,?_,trivial⟩
 ·cases g with
  |nil=>exact DEnt.nil _ _
  |cons x l=>exact DEnt.refl _
 ·cases h with
  |nil=>exact DEnt.nil _ _
  |cons x l=>exact DEnt.refl _
theorem dent_ct:DEntLL (rowL ct0 [sLy]) (rowL ctC exR.cities):=by
 show DEntLL [ct0 sLy] [ctC _]
 exact ⟨⟨DEnt.refl _,DEnt.refl _,DEnt.refl _,DEnt.nil _ _,DEnt.nil _ _,DEnt.nil _ _,trivial⟩,trivial⟩
theorem dent_od:DEntLL (rowL od0 [sGe]) (rowL odC exR.orders):=by
 show DEntLL [od0 sGe] [odC _]
 exact ⟨⟨DEnt.refl _,DEnt.refl _,DEnt.nil _ _,DEnt.nil _ _,trivial⟩,trivial⟩
theorem dent_trns:∀l:List Trn,DEntLL (rowL trn0 l) (rowL trnC l):=by
 intro l
 induction l with
 |nil=>trivial
 |cons t l ih=>exact ⟨dent_trn t,ih⟩
theorem example_ok:GC Tryz.prog 29 [] (.tup [rlG exR,crdG exC,rowTn exL]):=by
 refine gc_of_gk Tryz.func29 ?_
 refine gk_region env false [] [0,1,2] ?_
 refine gk_region env false [.el default strC [sFr],.el default ct0 [sLy],.el default inC [0],.el default fmC [⟨sA,0,0⟩,⟨sB,0,0⟩,⟨sC,0,0⟩],.el default od0 [sGe]] [0,1,2,3] ?_
 refine gk_region env false [.call (is_ok s7)] [0,1,2,3,4] ?_
 refine gk_region env false [.call (reads_ok s7),.call (is_ok s8),.call (reads_ok s8),.call (reads_ok s7),.el default trn0 exL] [0,1,2,3,4,5] ?_
 refine gk_region env false [] [0,1,2] ?_
 refine gk_retE env ?_
 exact Ent.tup ⟨Ent.agg ⟨Ent.refl _,(DEnt.row dent_ct).ent,Ent.refl _,Ent.refl _,(DEnt.row dent_od).ent,Ent.nil,Ent.nil,Ent.nil,trivial⟩,Ent.refl _,(DEnt.row (dent_trns exL)).ent,trivial⟩
end Go.Gh
namespace Go.Gh
open Go Go.Proofs
set_option maxRecDepth 1000000
set_option maxHeartbeats 2000000
set_option linter.unusedSimpArgs false
set_option linter.unusedVariables false
set_option linter.unnecessarySimpa false
set_option linter.unusedSectionVars false
variable [PowTab] [ItoaU]
open Go.RowKit
theorem ev1:runE exR exC (exL.take 1)=0:=by kernel_rfl
theorem ev2:runL exR exC (exL.take 1)=⟨60,0,40,0,[],-1⟩:=by kernel_rfl
theorem ev3:runE exR exC exL=0:=by kernel_rfl
theorem ev4:runL exR exC exL=⟨120,120,0,0,[0],-1⟩:=by kernel_rfl
theorem ev5:runX exR exC exL= [0,0,0,19,3,0]:=by kernel_rfl
theorem ev6:termsR exR exC exL=exIs s8:=by kernel_rfl
theorem memR_ex:MemR exR:=by
 refine ⟨⟨by simp[exR],fun s hs=> ?_⟩,⟨by simp[exR],fun c hc=> ?_⟩,by simp[exR],⟨by simp[exR],fun c hc=> ?_⟩,⟨by simp[exR],fun o ho=> ?_⟩,by simp[exR],⟨by simp[exR],fun x hx=>by cases hx⟩,by simp[exR]⟩
 ·simp only[exR,List.mem_cons,List.not_mem_nil,or_false]at hs;subst hs;decide
 ·simp only[exR,List.mem_cons,List.not_mem_nil,or_false]at hc;subst hc;exact ⟨by decide,by decide,by decide,by decide⟩
 ·simp only[exR,List.mem_cons,List.not_mem_nil,or_false]at hc;rcases hc with rfl|rfl|rfl<;>decide
 ·simp only[exR,List.mem_cons,List.not_mem_nil,or_false]at ho;subst ho;exact ⟨by decide,by decide,by decide⟩
theorem few_ex:Few37 exR exC exL:=few37_spec (by kernel_rfl) memR_ex
theorem p0:crdE ⟨[],[],[],[],[],[],[],[]⟩ exC=1:=by kernel_rfl
theorem p1:GC Tryz.prog 10 [rlG exR,crdG exC,rowTn (exL.take 1)] (.tup [ledG ⟨60,0,40,0,[],-1⟩,rowI [0],iG 0]):=by
 have h:=Run_ok exR few_ex.fr exC few_ex.fc (exL.take 1) fun _ t ht=>few_ex.ft (by decide) t (List.mem_of_mem_take ht)
 rw[ev1,ev2,show runX exR exC (exL.take 1)= [0]by kernel_rfl]at h
 exact h
theorem p2:GC Tryz.prog 10 [rlG exR,crdG exC,rowTn exL] (.tup [ledG ⟨120,120,0,0,[0],-1⟩,rowI [0,0,0,19,3,0],iG 0]):=by
 have h:=Run_ok exR few_ex.fr exC few_ex.fc exL few_ex.ft
 rw[ev3,ev4,ev5]at h
 exact h
theorem p3:GC Tryz.prog 12 [rlG exR,crdG exC,rowTn exL] (.tup [rowD (exIs s8),iG 0]):=by
 have h:=Terms_ok exR few_ex.fr exC few_ex.fc exL few_ex.ft
 rw[ev3,ev6]at h
 exact h
theorem p4:GC Tryz.prog 14 [ledG ⟨60,0,40,0,[],-1⟩,ledG ⟨60,0,40,0,[],-1⟩] (bG true):=by
 have h:=sameLed_ok ⟨60,0,40,0,[],-1⟩ ⟨60,0,40,0,[],-1⟩ (by simp) (by simp)
 rw[show ledEq ⟨60,0,40,0,[],-1⟩ ⟨60,0,40,0,[],-1⟩=true by kernel_rfl]at h
 exact h
theorem p5:GC Tryz.prog 14 [ledG ⟨120,120,0,0,[0],-1⟩,ledG ⟨120,120,0,0,[0],-1⟩] (bG true):=by
 have h:=sameLed_ok ⟨120,120,0,0,[0],-1⟩ ⟨120,120,0,0,[0],-1⟩ (by simp) (by simp)
 rw[show ledEq ⟨120,120,0,0,[0],-1⟩ ⟨120,120,0,0,[0],-1⟩=true by kernel_rfl]at h
 exact h
theorem p6:GC Tryz.prog 15 [rowI [0,0,0,19,3,0],rowI [0,0,0,19,3,0]] (bG true):=by
 have h:=sameErrs_ok [0,0,0,19,3,0] [0,0,0,19,3,0] (by simp) (by simp)
 simpa using h
theorem p7:GC Tryz.prog 16 [rowD (exIs s8),rowD (exIs s8)] (bG true):=by
 have h:=GC.lift (sameDemands_ok (exIs s8) (exIs s8) (by simp[exIs]) (by simp[exIs]))
 simpa using h
def exW:Dm:=⟨2,sInv,sNo,⟨#[]⟩,⟨#[]⟩,⟨#[]⟩,7,9⟩
def exD (s:ByteArray):Dm:=⟨1,sInv,sNo,⟨#[]⟩,⟨#[]⟩,s,0,0⟩
theorem p8:GC Tryz.prog 17 [dmG exW,dmG (exD s8)] (bG true):=by
 have h:=follows_ok exW (exD s8) (by decide)
 rw[show followsB exW (exD s8)=true by kernel_rfl]at h
 exact h
theorem p9:GC Tryz.prog 17 [dmG exW,dmG (exD sX)] (bG false):=by
 have h:=follows_ok exW (exD sX) (by decide)
 rw[show followsB exW (exD sX)=false by kernel_rfl]at h
 exact h
theorem few_text {l:List Dm} (h:∀d,d∈l→FewD d):∀f,f∈l→f.text.size≤9223372036854775807:=fun f hf=>by have:=(h f hf).text;omega
theorem p10:GC Tryz.prog 19 [rowD [exW],rowD (exIs s9)] (bG true):=by
 have h:=covers_ok [exW] (exIs s9) (by simp) (by simp[exIs]) (few_text (few33V_spec (l:=exIs s9) (by kernel_rfl)).2)
 rw[show coversB [exW] (exIs s9)=true by kernel_rfl]at h
 exact h
theorem p11:GC Tryz.prog 19 [rowD (exIs s9),rowD []] (bG false):=by
 have h:=covers_ok (exIs s9) [] (by simp[exIs]) (by simp) (fun f hf=>by cases hf)
 rw[show coversB (exIs s9) []=false by kernel_rfl]at h
 exact h
theorem fitR_nil:FitR ⟨[],[],[],[],[],[],[],[]⟩:=⟨by simp,fun s h=>(by cases h),by simp,fun s h=>(by cases h),by simp,by simp,fun s h=>(by cases h),by simp,fun s h=>(by cases h),by simp,by simp,fun s h=>(by cases h),by simp⟩
theorem p12:GC Tryz.prog 21 [rlG ⟨[],[],[],[],[],[],[],[]⟩,crdG exC] (iG 1):=by
 have h:=ccheck_ok ⟨[],[],[],[],[],[],[],[]⟩ fitR_nil exC few_ex.fc
 rw[p0]at h
 exact h
theorem small37_ok:GC Tryz.prog 8 [] (bG true):=by
 refine gc_of_gk Tryz.func8 ?_
 refine gk_region env false [] [0] ?_
 refine gk_region env false [.call example_ok] [0,1,2,3] ?_
 refine gk_region env false [.call p1] [0,1,2,3,4,6] ?_ (hp:=(by simp only[AllP,bb,toN];repeat' first|exact trivial|exact EntL.refl _|exact Ent.refl _|exact Ent.nil|exact Ent.agg ⟨Ent.refl _,Ent.refl _,Ent.refl _,Ent.refl _,Ent.nil,Ent.refl _,trivial⟩|exact Ent.agg ⟨Ent.nil,Ent.nil,Ent.nil,Ent.nil,Ent.nil,Ent.nil,Ent.nil,Ent.nil,trivial⟩|exact rfl|omega|decide|apply And.intro|intro _|(show _≤_;decide)))
 refine gk_region env false [.call p2] [0,1,2,3,4,6,7,8,9] ?_
 refine gk_region env false [.call p3] [0,2,4,6,7,8,9,10,11] ?_
 refine gk_region env false [] [0,2,4,7,8,10,53] ?_
 refine gk_if (fun c1=> ?_) (fun c1=> ?_)
 ·try simp only[bb,toN]at c1
  exact absurd c1 (by simp)
 ·try simp only[bb,toN]at c1
  refine gk_region env false [.call p4,.el default inC [0],.call p5] [0,2,8,10,12] ?_ (hp:=(by simp only[AllP,bb,toN];repeat' first|exact trivial|exact EntL.refl _|exact Ent.refl _|exact Ent.nil|exact Ent.agg ⟨Ent.refl _,Ent.refl _,Ent.refl _,Ent.refl _,Ent.nil,Ent.refl _,trivial⟩|exact Ent.agg ⟨Ent.nil,Ent.nil,Ent.nil,Ent.nil,Ent.nil,Ent.nil,Ent.nil,Ent.nil,trivial⟩|exact rfl|omega|decide|apply And.intro|intro _|(show _≤_;decide)))
  refine gk_region env false [.el default inC [0,0,0,19,3,0],.call p6,.call (is_ok s8),.call p7] [0,2,12,13] ?_ (hp:=(by simp only[AllP,bb,toN];repeat' first|exact trivial|exact EntL.refl _|exact Ent.refl _|exact Ent.nil|exact Ent.agg ⟨Ent.refl _,Ent.refl _,Ent.refl _,Ent.refl _,Ent.nil,Ent.refl _,trivial⟩|exact Ent.agg ⟨Ent.nil,Ent.nil,Ent.nil,Ent.nil,Ent.nil,Ent.nil,Ent.nil,Ent.nil,trivial⟩|exact rfl|omega|decide|apply And.intro|intro _|(show _≤_;decide)))
  refine gk_region env false [] [0,2,12,13,14] ?_
  refine gk_region env false [.call (is_ok s8),.call p8,.call (is_ok sX),.call p9,.el default dmC [exW],.call (is_ok s9),.call p10,.call (is_ok s9),.call p11,.call p12] [0] ?_ (hp:=(by simp only[AllP,bb,toN];repeat' first|exact trivial|exact EntL.refl _|exact Ent.refl _|exact Ent.nil|exact Ent.agg ⟨Ent.refl _,Ent.refl _,Ent.refl _,Ent.refl _,Ent.nil,Ent.refl _,trivial⟩|exact Ent.agg ⟨Ent.nil,Ent.nil,Ent.nil,Ent.nil,Ent.nil,Ent.nil,Ent.nil,Ent.nil,trivial⟩|exact rfl|omega|decide|apply And.intro|intro _|(show _≤_;decide)))
  refine gk_ret env ?_
  rfl
end Go.Gh
namespace Go.Gh
open Go Go.Proofs
set_option maxRecDepth 1000000
set_option maxHeartbeats 2000000
set_option linter.unusedSimpArgs false
set_option linter.unusedVariables false
set_option linter.unnecessarySimpa false
set_option linter.unusedSectionVars false
variable [PowTab] [ItoaU]
open Go.RowKit
theorem err_draw {s:Sta} {t:Trn} :(drawS s t).2≠0→(drawS s t).1=s:=by
 unfold drawS;repeat' split
 all_goals simp
theorem err_amend {s:Sta} {t:Trn} :(amendS s t).2≠0→(amendS s t).1=s:=by
 unfold amendS;repeat' split
 all_goals simp
theorem err_accept {s:Sta} {t:Trn} :(acceptS s t).2≠0→(acceptS s t).1=s:=by
 unfold acceptS;repeat' split
 all_goals simp
theorem err_reject {s:Sta} {t:Trn} :(rejectS s t).2≠0→(rejectS s t).1=s:=by
 unfold rejectS;repeat' split
 all_goals simp
theorem err_transfer {s:Sta} {t:Trn} :(transferS s t).2≠0→(transferS s t).1=s:=by
 unfold transferS;repeat' split
 all_goals simp
theorem err_confirm {s:Sta} {t:Trn} :(confirmS s t).2≠0→(confirmS s t).1=s:=by
 unfold confirmS;repeat' split
 all_goals simp
theorem err_pay {s:Sta} {t:Trn} :(payS s t).2≠0→(payS s t).1=s:=by
 unfold payS;repeat' split
 all_goals simp
theorem err_act {s:Sta} {t:Trn} (h:(actS s t).2≠0):(actS s t).1=s:=by
 unfold actS at h⊢
 repeat' split
 all_goals (simp only[*,if_true,if_false]at h)
 ·exact err_draw h
 ·exact err_amend h
 ·exact err_accept h
 ·exact err_reject h
 ·exact err_transfer h
 ·exact err_confirm h
 ·exact err_pay h
theorem turn_err {s:Sta} {t:Trn} (h:(turnS s t).2≠0):(turnS s t).1=s:=by
 unfold turnS at h⊢
 split
 ·rename_i h1
  rw[if_pos h1]at h
  split
  ·rfl
  ·rename_i h2
   rw[if_neg h2]at h
   split
   ·rename_i h3;rw[if_pos h3]at h;exact absurd rfl h
   ·rename_i h3;exact err_act h3
 ·rfl
theorem turn_ok {s:Sta} {t:Trn} (h:(turnS s t).2=0):(0≤t.kind∧t.kind<7)∧s.day≤t.day∧(actS s t).2=0∧(turnS s t).1=dayS (actS s t).1 t.day:=by
 unfold turnS at h⊢
 split at h
 ·rename_i h1
  rw[if_pos h1]
  split at h
  ·cases h
  ·rename_i h2
   rw[if_neg h2]
   split at h
   ·rename_i h3
    rw[if_pos h3]
    exact ⟨inB_iff.1 h1.1.1,by omega,h3,rfl⟩
   ·rename_i h3;exact absurd h h3
 ·cases h
theorem draw_ok {s:Sta} {t:Trn} (h:(drawS s t).2=0):t.day≤s.c.exp∧(t.by_=s.c.ben∨s.second≠-1)∧(1≤t.sum∧t.sum≤1099511627776)∧
 (((drawS s t).1=subS s t (t.by_=s.c.ben)∧fitsB s t.sum (amtS s t)=true∧confV s.terms t.docs=true)∨
  ((drawS s t).1=subS (takeS s (noS s t)) t (t.by_=s.c.ben)∧t.by_=s.c.ben∧¬noS s t<0)):=by
 unfold drawS at h⊢
 split at h
 ·cases h
 ·rename_i h1
  rw[if_neg h1]
  split at h
  ·cases h
  ·rename_i h2
   rw[if_neg h2]
   split at h
   ·cases h
   ·rename_i h3
    rw[if_neg h3]
    refine ⟨by omega,by omega,by omega,?_⟩
    split at h
    ·rename_i h4
     rw[if_pos h4]
     exact .inl ⟨rfl,h4.1,h4.2⟩
    ·rename_i h4
     rw[if_neg h4]
     split at h
     ·cases h
     ·rename_i h5
      rw[if_neg h5]
      exact .inr ⟨rfl,by omega,by omega⟩
theorem fitsB_le {s:Sta} {a b:Int} (h:fitsB s a b=true):a≤b:=by
 simp only[fitsB,Bool.cond_eq_ite]at h
 split at h
 ·rename_i h1;have:=of_decide_eq_true h1;omega
 ·split at h
  ·have:=of_decide_eq_true h;omega
  ·cases h
theorem amend_ok {s:Sta} {t:Trn} (h:(amendS s t).2=0):(amendS s t).1= {s with amds:=s.amds++ [⟨t.terms,t.sum,true⟩]} ∧0≤t.sum:=by
 unfold amendS at h⊢
 by_cases h1:t.by_=s.c.iss
 ·rw[if_pos h1]at h⊢
  by_cases h2:printOk t.terms=true
  ·rw[if_pos h2]at h⊢
   by_cases h3:t.sum<0∨1099511627776<t.sum
   ·rw[if_pos h3]at h;cases h
   ·rw[if_neg h3]at h⊢
    by_cases h4:s.amds.length=8
    ·rw[if_pos h4]at h;cases h
    ·rw[if_neg h4]at h⊢;exact ⟨rfl,by omega⟩
  ·rw[if_neg h2]at h;cases h
 ·rw[if_neg h1]at h;cases h
theorem transfer_ok {s:Sta} {t:Trn} (h:(transferS s t).2=0):(transferS s t).1=transS s t∧s.second= -1∧0≤t.to_∧1≤t.sum∧t.sum≤s.left:=by
 unfold transferS at h⊢
 by_cases h1:t.by_=s.c.ben∧s.c.trans=true
 ·rw[if_pos h1]at h⊢
  by_cases h2:s.second= -1
  ·rw[if_pos h2]at h⊢
   by_cases h3:inB t.to_ s.firms=true∧t.to_≠s.c.ben
   ·rw[if_pos h3]at h⊢
    by_cases h4:s.c.exp<t.day
    ·rw[if_pos h4]at h;cases h
    ·rw[if_neg h4]at h⊢
     by_cases h5:t.sum<1∨s.left<t.sum
     ·rw[if_pos h5]at h;cases h
     ·rw[if_neg h5];exact ⟨rfl,h2,(inB_iff.1 h3.1).1,by omega,by omega⟩
   ·rw[if_neg h3]at h;cases h
  ·rw[if_neg h2]at h;cases h
 ·rw[if_neg h1]at h;cases h
theorem pay_ok {s:Sta} {t:Trn} (h:(payS s t).2=0):(payS s t).1=paidS s t.sum∧1≤t.sum∧t.sum≤s.drawn-s.paid:=by
 unfold payS at h⊢
 by_cases h1:t.by_=s.c.iss∨(s.conf=true∧t.by_=s.c.conf)
 ·rw[if_pos h1]at h⊢
  by_cases h2:t.sum<1∨s.drawn-s.paid<t.sum
  ·rw[if_pos h2]at h;cases h
  ·rw[if_neg h2];exact ⟨rfl,by omega,by omega⟩
 ·rw[if_neg h1]at h;cases h
theorem accept_ok {s:Sta} {t:Trn} (h:(acceptS s t).2=0):(acceptS s t).1=takeS s t.no∧0≤t.no∧t.no<s.amds.length∧(s.amds.getD t.no.toNat default).pend=true:=by
 unfold acceptS at h⊢
 by_cases h1:pendE s t=0
 ·rw[if_pos h1]at h⊢
  by_cases h2:s.c.exp<t.day
  ·rw[if_pos h2]at h;cases h
  ·rw[if_neg h2]
   obtain ⟨_,p1,p2,p3⟩:=pendE_0 h1
   exact ⟨rfl,p1,p2,p3⟩
 ·rw[if_neg h1]at h;exact absurd h h1
theorem reject_ok {s:Sta} {t:Trn} (h:(rejectS s t).2=0):(rejectS s t).1=dropS s t.no∧0≤t.no∧t.no<s.amds.length:=by
 unfold rejectS at h⊢
 by_cases h1:pendE s t=0
 ·rw[if_pos h1]
  obtain ⟨_,p1,p2,p3⟩:=pendE_0 h1
  exact ⟨rfl,p1,p2⟩
 ·rw[if_neg h1]at h;exact absurd h h1
theorem confirm_ok {s:Sta} {t:Trn} (h:(confirmS s t).2=0):(confirmS s t).1= {s with conf:=true} :=by
 unfold confirmS at h⊢
 by_cases h1:t.by_=s.c.conf
 ·rw[if_pos h1]at h⊢
  by_cases h2:s.conf=true
  ·rw[if_pos h2]at h;cases h
  ·rw[if_neg h2]
 ·rw[if_neg h1]at h;cases h
def sumAt (a:List Amd):List Int→Int
 | []=>0
 |k::ks=>(a.getD k.toNat default).sum+sumAt a ks
theorem sumAt_append (a:List Amd) (l m:List Int):sumAt a (l++m)=sumAt a l+sumAt a m:=by
 induction l with
 |nil=>simp[sumAt]
 |cons k l ih=>simp only[List.cons_append,sumAt,ih];omega
theorem set_sum {a:List Amd} {i j:Nat} (h:i<a.length):((a.set i {a.getD i default with pend:=false}).getD j default).sum=(a.getD j default).sum:=by
 by_cases e:j=i
 ·subst e
  rw[List.getD_eq_getElem?_getD,List.getElem?_set_self h];rfl
 ·rw[List.getD_eq_getElem?_getD,List.getElem?_set_ne (fun h=>e h.symm),←List.getD_eq_getElem?_getD]
theorem set_pend {a:List Amd} {i j:Nat} (h:i<a.length) (hp:(a.getD j default).pend=false∨j=i):((a.set i {a.getD i default with pend:=false}).getD j default).pend=false:=by
 by_cases e:j=i
 ·subst e
  rw[List.getD_eq_getElem?_getD,List.getElem?_set_self h];rfl
 ·rw[List.getD_eq_getElem?_getD,List.getElem?_set_ne (fun h=>e h.symm),←List.getD_eq_getElem?_getD]
  exact hp.resolve_right e
theorem sumAt_set {a:List Amd} {i:Nat} (h:i<a.length) (l:List Int):sumAt (a.set i {a.getD i default with pend:=false}) l=sumAt a l:=by
 induction l with
 |nil=>rfl
 |cons k l ih=>simp only[sumAt,ih,set_sum h]
theorem sumAt_app {a:List Amd} {x:Amd} :∀ {l:List Int},(∀k,k∈l→0≤k∧k<a.length)→sumAt (a++ [x]) l=sumAt a l
 | [],_=>rfl
 |k::l,h=>by
  have hk:=h k (by simp)
  simp only[sumAt,sumAt_app (l:=l) fun k hk=>h k (by simp[hk])]
  rw[List.getD_eq_getElem?_getD,List.getElem?_append_left (by omega),←List.getD_eq_getElem?_getD]
structure Acc (c:Crd) (s:Sta):Prop where
 cc:s.c=c
 left:0≤s.left
 moved:0≤s.moved
 paid:s.paid≤s.drawn
 second:s.second= -1→s.moved=0
 each:∀k,k∈s.amended→(0≤k∧k<s.amds.length)∧(s.amds.getD k.toNat default).pend=false
 nodup:s.amended.Nodup
 rest:0≤s.rest∧s.rest≤c.rev
 all:s.drawn+s.left+s.moved=c.sum*(1+c.rev-s.rest)+sumAt s.amds s.amended
theorem acc_take {c:Crd} {s:Sta} (h:Acc c s) {no:Int} (h0:0≤no) (h1:no<s.amds.length) (hp:(s.amds.getD no.toNat default).pend=true) (hs:0≤(s.amds.getD no.toNat default).sum):Acc c (takeS s no):=by
 have hn:no∉s.amended:=fun hm=>by rw[(h.each no hm).2]at hp;cases hp
 have hl:no.toNat<s.amds.length:=by omega
 have ha:=h.all
 have h2:=h.left
 refine ⟨h.cc,by show 0≤s.left+_;omega,h.moved,h.paid,h.second,fun k hk=> ?_,?_,h.rest,?_⟩
 ·show (0≤k∧k<((s.amds.set no.toNat _).length:Int))∧((s.amds.set no.toNat _).getD k.toNat default).pend=false
  rw[List.length_set]
  rcases List.mem_append.1 hk with hk|hk
  ·exact ⟨(h.each k hk).1,set_pend hl (.inl (h.each k hk).2)⟩
  ·rw[List.mem_singleton.1 hk]
   exact ⟨⟨h0,h1⟩,set_pend hl (.inr rfl)⟩
 ·show (s.amended++ [no]).Nodup
  refine List.nodup_append.2 ⟨h.nodup,by simp,fun a ha b hb=> ?_⟩
  rw[List.mem_singleton.1 hb]
  exact fun e=>hn (e▸ha)
 ·show s.drawn+(s.left+(s.amds.getD no.toNat default).sum)+s.moved=c.sum*(1+c.rev-s.rest)+sumAt (s.amds.set no.toNat _) (s.amended++ [no])
  rw[sumAt_append,sumAt_set hl,sumAt_set hl]
  simp only[sumAt]
  omega
theorem acc_sub {c:Crd} {s:Sta} {t:Trn} {p:Prop} [Decidable p] (h:Acc c s) (ht:1≤t.sum) (h1:p→t.sum≤s.left) (h2:¬p→t.sum≤s.moved∧s.second≠-1):Acc c (subS s t p):=by
 have ha:=h.all;have hl:=h.left;have hm:=h.moved;have hp:=h.paid
 unfold subS
 split
 ·rename_i hq;have:=h1 hq
  exact ⟨h.cc,by simp only;omega,h.moved,by simp only;omega,h.second,h.each,h.nodup,h.rest,by simp only;omega⟩
 ·rename_i hq;have:=h2 hq
  exact ⟨h.cc,h.left,by simp only;omega,by simp only;omega,fun e=>absurd e this.2,h.each,h.nodup,h.rest,by simp only;omega⟩
theorem cand_sum {s:Sta} {t:Trn} {a:Amd} (h:candB s t a=true):a.pend=true∧t.sum≤s.left+a.sum∧confV a.terms t.docs=true:=by
 simp only[candB,Bool.cond_eq_ite]at h
 split at h
 ·rename_i h1
  split at h
  ·rename_i h2;exact ⟨h1,fitsB_le h2,h⟩
  ·cases h
 ·cases h
theorem acc_act {c:Crd} {s:Sta} {t:Trn} (h:Acc c s) (hk:0≤t.kind∧t.kind<7) (hs:∀a,a∈s.amds→0≤a.sum) (hc:1≤c.sum) (h0:(actS s t).2=0):Acc c (actS s t).1:=by
 have ha:=h.all;have hl:=h.left;have hm:=h.moved;have hpd:=h.paid
 have hsa:∀i,i<s.amds.length→0≤(s.amds.getD i default).sum:=fun i hi=>hs _ (getD_mem hi)
 unfold actS at h0⊢
 split
 ·rename_i hk0
  rw[if_pos hk0]at h0
  obtain ⟨_,h2,h3,h4⟩:=draw_ok h0
  rcases h4 with ⟨e,h5,_⟩|⟨e,h5,h6⟩
  ·rw[e]
   have h7:=fitsB_le h5
   refine acc_sub h h3.1 (fun hp=> ?_) fun hp=> ?_
   ·rw[amtS,if_pos hp]at h7;exact h7
   ·rw[amtS,if_neg hp]at h7;exact ⟨h7,h2.resolve_left hp⟩
  ·rw[e]
   obtain ⟨n1,n2,n3⟩:=noS_at h6
   obtain ⟨c1,c2,_⟩:=cand_sum n3
   exact acc_sub (acc_take h n1 n2 c1 (hsa _ (by omega))) h3.1 (fun _=>c2) fun hp=>absurd h5 hp
 rename_i k0
 rw[if_neg k0]at h0
 split
 ·rename_i k1
  rw[if_pos k1]at h0
  rw[(amend_ok h0).1]
  refine ⟨h.cc,h.left,h.moved,h.paid,h.second,fun k hk=> ?_,h.nodup,h.rest,?_⟩
  ·obtain ⟨e1,e2⟩:=h.each k hk
   simp only[List.length_append,List.length_cons,List.length_nil]
   refine ⟨by omega,?_⟩
   rw[List.getD_eq_getElem?_getD,List.getElem?_append_left (by omega),←List.getD_eq_getElem?_getD]
   exact e2
  ·simp only
   rw[sumAt_app fun k hk=>(h.each k hk).1]
   exact h.all
 rename_i k1
 rw[if_neg k1]at h0
 split
 ·rename_i k2
  rw[if_pos k2]at h0
  obtain ⟨e,p1,p2,p3⟩:=accept_ok h0
  rw[e]
  exact acc_take h p1 p2 p3 (hsa _ (by omega))
 rename_i k2
 rw[if_neg k2]at h0
 split
 ·rename_i k3
  rw[if_pos k3]at h0
  obtain ⟨e,p1,p2⟩:=reject_ok h0
  rw[e]
  have hl:t.no.toNat<s.amds.length:=by omega
  refine ⟨h.cc,h.left,h.moved,h.paid,h.second,fun k hk=> ?_,h.nodup,h.rest,?_⟩
  ·show (0≤k∧k<((s.amds.set t.no.toNat _).length:Int))∧((s.amds.set t.no.toNat _).getD k.toNat default).pend=false
   rw[List.length_set]
   exact ⟨(h.each k hk).1,set_pend hl (.inl (h.each k hk).2)⟩
  ·show s.drawn+s.left+s.moved=c.sum*(1+c.rev-s.rest)+sumAt (s.amds.set t.no.toNat _) s.amended
   rw[sumAt_set hl];exact ha
 rename_i k3
 rw[if_neg k3]at h0
 split
 ·rename_i k4
  rw[if_pos k4]at h0
  obtain ⟨e,q1,q2,q3,q4⟩:=transfer_ok h0
  rw[e]
  have hm0:=h.second q1
  exact ⟨h.cc,by simp only[transS];omega,by simp only[transS];omega,h.paid,fun e=>by simp only[transS]at e;omega,h.each,h.nodup,h.rest,by simp only[transS];omega⟩
 rename_i k4
 rw[if_neg k4]at h0
 split
 ·rename_i k5
  rw[if_pos k5]at h0
  rw[confirm_ok h0]
  exact ⟨h.cc,h.left,h.moved,h.paid,h.second,h.each,h.nodup,h.rest,h.all⟩
 rename_i k5
 rw[if_neg k5]at h0
 obtain ⟨e,q1,q2⟩:=pay_ok h0
 rw[e]
 unfold paidS
 split
 ·rename_i q3
  have hr:=h.rest
  refine ⟨h.cc,?_,h.moved,by simp only;omega,h.second,h.each,h.nodup,by simp only;omega,?_⟩
  ·simp only;rw[h.cc];omega
  ·simp only
   rw[show c.sum*(1+c.rev-(s.rest-1))=c.sum*(1+c.rev-s.rest)+c.sum by rw[show (1+c.rev-(s.rest-1))=(1+c.rev-s.rest)+1 by omega,Int.mul_add,Int.mul_one]]
   have:=h.cc
   rw[this]
   omega
 ·exact ⟨h.cc,h.left,h.moved,by simp only;omega,h.second,h.each,h.nodup,h.rest,h.all⟩
end Go.Gh
namespace Go.Gh
open Go Go.Proofs
set_option maxRecDepth 1000000
set_option maxHeartbeats 2000000
set_option linter.unusedSimpArgs false
set_option linter.unusedVariables false
set_option linter.unnecessarySimpa false
set_option linter.unusedSectionVars false
variable [PowTab] [ItoaU]
open Go.RowKit
def stF (l:List Trn) (s0:Sta):Nat→Sta
 |0=>s0
 |i+1=>(turnS (stF l s0 i) (l.getD i default)).1
def erF (l:List Trn) (s0:Sta) (i:Nat):Int:=(turnS (stF l s0 i) (l.getD i default)).2
theorem runF_st (l:List Trn) (s0:Sta):∀(k i:Nat) (out:List Int),l.length-i=k→i≤l.length→runF l i (stF l s0 i) out=(stF l s0 l.length,out++(List.range' i k).map (erF l s0)):=by
 intro k
 induction k with
 |zero=>
  intro i out hk hi
  have:i=l.length:=by omega
  subst this
  rw[runF,if_neg (by omega)];simp
 |succ k ih=>
  intro i out hk hi
  rw[runF,if_pos (by omega)]
  have h:=ih (i+1) (out++ [erF l s0 i]) (by omega) (by omega)
  rw[show (turnS (stF l s0 i) (l.getD i default)).1=stF l s0 (i+1)from rfl,show (turnS (stF l s0 i) (l.getD i default)).2=erF l s0 i from rfl,h]
  simp[List.range'_succ]
theorem runS_st (r:Rlm) (c:Crd) (l:List Trn):runS r c l=(stF l (sta0 r c) l.length,(List.range' 0 l.length).map (erF l (sta0 r c))):=by
 have:=runF_st l (sta0 r c) l.length 0 [] (by omega) (by omega)
 simpa [runS,stF]using this
theorem fits_st {r:Rlm} {c:Crd} {l:List Trn} (hc:FitCr c) (h0:crdE r c=0) (hl:l.length≤60) (ht:∀t,t∈l→FitT t):∀i,i≤l.length→Fits i (stF l (sta0 r c) i)
 |0,_=>fits_0 h0 hc
 |i+1,hi=>fits_turn (fits_st hc h0 hl ht i (by omega)) (by omega) (ht _ (getD_mem (by omega)))
theorem crd_facts {r:Rlm} {c:Crd} (h:crdE r c=0):(1≤c.sum∧c.sum≤1099511627776)∧0≤c.rev∧c.rev≤10:=by
 have hr:rngB c=true:=by
  unfold crdE at h
  split at h
  ·split at h
   ·split at h
    ·assumption
    ·omega
   ·omega
  ·contradiction
 rw[rng_t,inB_iff,inB_iff]at hr
 omega
theorem acc_0 {r:Rlm} {c:Crd} (h:crdE r c=0):Acc c (sta0 r c):=by
 have hf:=crd_facts h
 refine ⟨rfl,by simp only[sta0];omega,by simp only[sta0];omega,by simp only[sta0];omega,fun _=>rfl,fun k hk=>by simp[sta0]at hk,by simp[sta0],by simp only[sta0];omega,?_⟩
 simp only[sta0,sumAt]
 rw[show 1+c.rev-c.rev=1 by omega]
 omega
theorem acc_day {c:Crd} {s:Sta} (h:Acc c s) (d:Int):Acc c (dayS s d):=⟨h.cc,h.left,h.moved,h.paid,h.second,h.each,h.nodup,h.rest,h.all⟩
theorem acc_turn {c:Crd} {s:Sta} {t:Trn} {k:Nat} (h:Acc c s) (hf:Fits k s) (hc:1≤c.sum):Acc c (turnS s t).1:=by
 by_cases he:(turnS s t).2=0
 ·obtain ⟨h1,_,h2,h3⟩:=turn_ok he
  rw[h3]
  exact acc_day (acc_act h h1 (fun a ha=>(hf.amd a ha).1.1) hc h2) _
 ·rw[turn_err he];exact h
theorem acc_st {r:Rlm} {c:Crd} {l:List Trn} (hc:FitCr c) (h0:crdE r c=0) (hl:l.length≤60) (ht:∀t,t∈l→FitT t):∀i,i≤l.length→Acc c (stF l (sta0 r c) i)
 |0,_=>acc_0 h0
 |i+1,hi=>acc_turn (acc_st hc h0 hl ht i (by omega)) (fits_st hc h0 hl ht i (by omega)) (crd_facts h0).1.1
theorem GC.few37_is {r:Rlm} (hm:MemR r) {c:Crd} {l:List Trn} (hcl:MemC c l) {b:Bool} (h:few37V r c l=b):GC Tryz.prog 9 [rlG r,crdG c,rowTn l] (bG b):=h▸few37_ok r hm c l hcl
theorem take_next {l:List Int} {i:Nat} (h:i<l.length):l.take (i+1)=l.take i++ [l.getD i default]:=by
 rw[List.take_add_one,List.getElem?_eq_getElem h,List.getD_eq_getElem?_getD,List.getElem?_eq_getElem h];rfl
end Go.Gh
namespace Go.Gh
open Go Go.Proofs
set_option maxRecDepth 1000000
set_option maxHeartbeats 2000000
set_option linter.unusedSimpArgs false
set_option linter.unusedVariables false
set_option linter.unnecessarySimpa false
set_option linter.unusedSectionVars false
variable [PowTab] [ItoaU]
open Go.RowKit
end Go.Gh
namespace Go.Gh
open Go Go.Proofs
set_option maxRecDepth 1000000
set_option maxHeartbeats 2000000
set_option linter.unusedSimpArgs false
set_option linter.unusedVariables false
set_option linter.unnecessarySimpa false
set_option linter.unusedSectionVars false
variable [PowTab] [ItoaU]
open Go.RowKit
theorem wrap_u64 {n:Nat} (h:n<18446744073709551616):IntKind.u64.wrap (n:Int)=n:=by
 show (if (IntKind.u64.signed&&decide ((n:Int) % 2^IntKind.u64.bits≥2^(IntKind.u64.bits-1)))=true then (n:Int) % 2^IntKind.u64.bits-2^IntKind.u64.bits else (n:Int) % 2^IntKind.u64.bits)=n
 rw[if_neg (by simp[IntKind.signed])]
 show (n:Int) % 2^64=n
 omega
theorem ofI_nat (x:BitVec 64):BitVec.ofInt 64 ((x.toNat:Nat):Int)=x:=by
 rw[BitVec.ofInt_natCast,BitVec.ofNat_toNat];simp
theorem bit_not {k:Int} (h0:0≤k) (h1:k<30):BitVec.ofInt 64 (shlI .u64 1 k)≠0#64:=by
 have h:∀j:Fin 30,BitVec.ofInt 64 (shlI .u64 1 ((j.val:Nat):Int))≠0#64:=by decide
 have e:k=((k.toNat:Nat):Int):=by omega
 rw[e]
 exact h ⟨k.toNat,by omega⟩
theorem bitsF_pos {ks:List Int} (hk:∀x,x∈ks→0≤x∧x<30):∀(n i:Nat) (s:Int),ks.length-i=n→BitVec.ofInt 64 s≠0#64→bitsF ks i s≠0:=by
 intro n
 induction n with
 |zero=>
  intro i s hn hs
  rw[bitsF,if_neg (by omega)]
  intro e;subst e;exact hs rfl
 |succ n ih=>
  intro i s hn hs
  rw[bitsF,if_pos (by omega)]
  refine ih (i+1) _ (by omega) fun e=> ?_
  have hw:BitVec.ofInt 64 (orI .u64 s (shlI .u64 1 (ks.getD i default)))=BitVec.ofInt 64 s|||BitVec.ofInt 64 (shlI .u64 1 (ks.getD i default)):=by
   show BitVec.ofInt 64 (IntKind.u64.wrap ((BitVec.ofInt 64 s|||BitVec.ofInt 64 (shlI .u64 1 (ks.getD i default))).toNat:Nat))=_
   rw[wrap_u64 (BitVec.ofInt 64 s|||BitVec.ofInt 64 (shlI .u64 1 (ks.getD i default))).isLt]
   exact ofI_nat _
  rw[hw]at e
  exact hs (BitVec.or_eq_zero_iff.1 e).1
theorem bitsE_zero {ks:List Int} (hk:∀x,x∈ks→0≤x∧x<30) (h:bitsE ks=0):ks= []:=by
 match ks,hk,h with
 | [],_,_=>rfl
 |k::ks,hk,h=>
  exfalso
  unfold bitsE at h
  rw[bitsF,if_pos (by simp)]at h
  have h1:=hk k (by simp)
  refine bitsF_pos hk _ 1 _ rfl (fun e=> ?_) h
  have hw:BitVec.ofInt 64 (orI .u64 0 (shlI .u64 1 k))=BitVec.ofInt 64 0|||BitVec.ofInt 64 (shlI .u64 1 k):=by
   show BitVec.ofInt 64 (IntKind.u64.wrap ((BitVec.ofInt 64 0|||BitVec.ofInt 64 (shlI .u64 1 k)).toNat:Nat))=_
   rw[wrap_u64 (BitVec.ofInt 64 0|||BitVec.ofInt 64 (shlI .u64 1 k)).isLt]
   exact ofI_nat _
  have e:BitVec.ofInt 64 (orI .u64 0 (shlI .u64 1 k))=0#64:=e
  rw[hw]at e
  exact bit_not h1.1 h1.2 (BitVec.or_eq_zero_iff.1 e).2
theorem mem_dedL {xs:List Int} {x:Int} (h:x∈xs):x∈dedL xs:=by
 unfold dedL
 have key:∀(xs acc:List Int),(x∈acc∨x∈xs)→x∈xs.foldl (fun acc x=>if acc.contains x then acc else acc++ [x]) acc:=by
  intro xs
  induction xs with
  |nil=>intro acc h;exact h.resolve_right (by simp)
  |cons y ys ih=>
   intro acc h
   simp only[List.foldl_cons]
   refine ih _ ?_
   by_cases e:acc.contains y=true
   ·rw[if_pos e]
    rcases h with h|h
    ·exact .inl h
    ·rcases List.mem_cons.1 h with h|h
     ·subst h;exact .inl (by simpa using e)
     ·exact .inr h
   ·rw[if_neg e]
    rcases h with h|h
    ·exact .inl (List.mem_append.2 (.inl h))
    ·rcases List.mem_cons.1 h with h|h
     ·subst h;exact .inl (by simp)
     ·exact .inr h
 exact key xs [] (.inr h)
theorem conf_all {l:List Dm} {docs:List Dc} (hl:l.length≤30) (h:confV l docs=true):(countsE docs).2.2=0∧∀a:Nat,(a:Int)<(countsE docs).2.1→failV l (readL docs (countsE docs).1 a)= []:=by
 simp only[confV,Bool.cond_eq_ite]at h
 split at h
 ·rename_i h1
  have h1:=of_decide_eq_true h1
  have h2:=of_decide_eq_true h
  have h3:(countsE docs).2.2=0:=by
   unfold lookErr at h1
   split at h1
   ·omega
   ·split at h1
    ·assumption
    ·exact h1
  refine ⟨h3,fun a ha=> ?_⟩
  unfold stateE at h2
  rw[if_pos h1]at h2
  split at h2
  ·rename_i h4
   split at h2
   ·rename_i h5
    have hm:setAt l docs (countsE docs).1 a∈lookS l docs:=by
     rw[lookS,if_pos h1]
     refine mem_dedL ?_
     unfold setsL
     exact List.mem_map.2 ⟨a,List.mem_range.2 (by omega),rfl⟩
    have hz:∀x,x∈lookS l docs→x=0:=by
     obtain ⟨y,hy⟩:=List.length_eq_one_iff.1 h5
     rw[hy]at h4⊢
     simp at h4
     intro x hx
     rw[List.mem_singleton.1 hx];exact h4
    refine bitsE_zero (fun x hx=> ?_) (hz _ hm)
    have:=failV_ix hx
    omega
   ·cases h2
  ·cases h2
 ·cases h
end Go.Gh
namespace Go.Gh
open Go Go.Proofs
set_option maxRecDepth 1000000
set_option maxHeartbeats 2000000
set_option linter.unusedSimpArgs false
set_option linter.unusedVariables false
set_option linter.unnecessarySimpa false
set_option linter.unusedSectionVars false
variable [PowTab] [ItoaU]
open Go.RowKit
def sizeN (s:Int):Nat→Int
 |0=>0
 |k+1=>sizeN s k+andI .i64 (shrI .i64 s k) 1
theorem and1_b:∀x:Int,0≤andI .i64 x 1∧andI .i64 x 1≤1:=by
 intro x
 have h:(BitVec.ofInt 64 x&&&BitVec.ofInt 64 1).toNat≤1:=by
  rw[BitVec.toNat_and]
  exact Nat.and_le_right
 show 0≤IntKind.i64.wrap ((BitVec.ofInt 64 x&&&BitVec.ofInt 64 1).toNat:Nat)∧IntKind.i64.wrap ((BitVec.ofInt 64 x&&&BitVec.ofInt 64 1).toNat:Nat)≤1
 rw[wrap_small (by omega) (by omega)]
 omega
theorem sizeN_b (s:Int):∀k,0≤sizeN s k∧sizeN s k≤k
 |0=>by simp[sizeN]
 |k+1=>by
  have h1:=sizeN_b s k
  have h2:=and1_b (shrI .i64 s k)
  simp only[sizeN]
  omega
theorem size_few {s:Int} (h0:0≤s) (h1:s<256):sizeN s 30≤8:=by
 have h:∀j:Fin 256,sizeN ((j.val:Nat):Int) 30≤8:=by decide+kernel
 have:=h ⟨s.toNat,by omega⟩
 have e:((s.toNat:Nat):Int)=s:=by omega
 rw[←e];exact this
def bitP (k:Nat):Int:=shlI .i64 1 k
theorem bitP_b {k:Nat} (h:k<8):1≤bitP k∧bitP k≤128:=by
 have e:∀j:Fin 8,1≤bitP j.val∧bitP j.val≤128:=by decide+kernel
 exact e ⟨k,h⟩
def powN:Nat→Int
 |0=>0
 |k+1=>powN k+bitP k
theorem powN_b {k:Nat} (h:k≤8):powN k≤255∧0≤powN k:=by
 have e:∀j:Fin 9,powN j.val≤255∧0≤powN j.val:=by decide+kernel
 exact e ⟨k,by omega⟩
theorem size34_ok (s:Int):GC Tryz.prog 166 [iG s] (iG (sizeN s 30)):=by
 refine gc_of_gk Tryz.func166 ?_
 refine gk_region env false [] [0,2] ?_
 refine gk_region env false [] [0,2,3] ?_
 refine gk_region env false [] [0,2,3,4] ?_
 refine gk_loop (α:=Nat) (fun i=>i≤30) (fun i=>[(4,iG i),(3,iG (sizeN s i))]) (fun _=>[]) (fun i=>30-i) 0 (by omega) ?_ (hp:=by simp only[AllP];repeat' first|exact trivial|exact EntL.refl _|exact BEntL.refl _|exact rfl|omega|apply And.intro|intro _)
 rintro i hi
 refine gk_region env false [] [0,2,3,4,6] ?_
 refine gk_ifd (fun c1=> ?_) (fun c1=> ?_)
 ·try simp only[toN]at c1
  have hb1:=sizeN_b s i
  have hb2:=and1_b (shrI .i64 s i)
  refine gk_region env false [] [0,2,3,4] ?_
  refine gk_region env false [] [0,2,3,4] ?_
  refine gk_round (i+1) ?_ (hp:=by simp only[AllP];repeat' first|exact trivial|exact EntL.refl _|exact BEntL.refl _|exact rfl|omega|apply And.intro|intro _)
  omega
 ·try simp only[toN]at c1
  refine gk_region env false [] [2] ?_
  refine gk_ret env ?_
  obtain rfl:i=30:=by omega
  rfl
def bitB (k:Nat) (x:Int):Bool:=decide (andI .i64 (shrI .i64 x k) 1=1)
def yesF (f:List Int) (k i:Nat):Bool:=(f.drop i).any fun x=> !bitB k x
def noF (f:List Int) (k i:Nat):Bool:=(f.drop i).any fun x=>bitB k x
theorem yesF_p {f:List Int} {k i:Nat} (h:i<f.length):yesF f k i=(!bitB k (f.getD i default)||yesF f k (i+1)):=by rw[yesF,drop_cons h,List.any_cons];rfl
theorem noF_p {f:List Int} {k i:Nat} (h:i<f.length):noF f k i=(bitB k (f.getD i default)||noF f k (i+1)):=by rw[noF,drop_cons h,List.any_cons];rfl
theorem yesF_n {f:List Int} {k i:Nat} (h:¬i<f.length):yesF f k i=false:=by rw[yesF,List.drop_eq_nil_of_le (by omega)];rfl
theorem noF_n {f:List Int} {k i:Nat} (h:¬i<f.length):noF f k i=false:=by rw[noF,List.drop_eq_nil_of_le (by omega)];rfl
def dN (f:List Int):Nat→Int
 |0=>0
 |k+1=>if (yesF f k 0&&noF f k 0)=true then dN f k+bitP k else dN f k
theorem dN_b (f:List Int):∀k,k≤8→0≤dN f k∧dN f k≤powN k
 |0,_=>by simp[dN,powN]
 |k+1,h=>by
  have h1:=dN_b f k (by omega)
  have h2:=bitP_b (k:=k) (by omega)
  simp only[dN,powN]
  split<;>omega
def sumS:List Int→Int
 | []=>0
 |k::ks=>bitP k.toNat+sumS ks
theorem sumS_app (a:List Int) (x:Int):sumS (a++ [x])=sumS a+bitP x.toNat:=by
 induction a with
 |nil=>simp[sumS]
 |cons y a ih=>simp only[List.cons_append,sumS,ih];omega
theorem sumS_b:∀ {a:List Int},(∀x,x∈a→0≤x∧x<8)→0≤sumS a∧sumS a≤a.length*128∧(sumS a=0→a= [])
 | [],_=>by simp[sumS]
 |x::a,h=>by
  have h1:=h x (by simp)
  have h2:=bitP_b (k:=x.toNat) (by omega)
  have h3:=sumS_b (a:=a) fun y hy=>h y (by simp[hy])
  simp only[sumS,List.length_cons]
  refine ⟨by omega,by omega,fun h=>by omega⟩
def setK (l:List Dm) (docs:List Dc) (i:Nat):Int:=sumS (failV l (readL docs (countsE docs).1 i))
theorem setK_b {l:List Dm} {docs:List Dc} {i:Nat} (hl:l.length≤8):0≤setK l docs i∧setK l docs i≤1024∧(setK l docs i=0↔failV l (readL docs (countsE docs).1 i)= []):=by
 have hb:=sumS_b (a:=failV l (readL docs (countsE docs).1 i)) fun x hx=>by have:=failV_ix hx;omega
 have hn:=failV_len l (readL docs (countsE docs).1 i)
 unfold setK
 refine ⟨hb.1,by omega,hb.2.2,fun h=>by rw[h];rfl⟩
def failK (l:List Dm) (docs:List Dc) (n:Nat):List Int:=(List.range n).map (setK l docs)
theorem failK_next (l:List Dm) (docs:List Dc) (n:Nat):failK l docs (n+1)=failK l docs n++ [setK l docs n]:=by
 rw[failK,List.range_succ,List.map_append];rfl
theorem failK_len (l:List Dm) (docs:List Dc) (n:Nat):(failK l docs n).length=n:=by simp[failK]
theorem doubt34_ok (f:List Int) (hf:f.length≤5000) (m:Nat) (hm:m≤8):GC Tryz.prog 167 [rowI f,iG m] (iG (dN f m)):=by
 refine gc_of_gk Tryz.func167 ?_
 refine gk_region env false [] [0,1,4] ?_
 refine gk_region env false [] [0,1,4,5] ?_
 refine gk_region env false [] [0,1,4,5,6] ?_
 refine gk_loop (α:=Nat) (fun k=>k≤m) (fun k=>[(6,iG k),(5,iG (dN f k))]) (fun _=>[]) (fun k=>m-k) 0 (Nat.zero_le _) ?_ (hp:=by simp only[AllP];repeat' first|exact trivial|exact EntL.refl _|exact BEntL.refl _|exact rfl|omega|apply And.intro|intro _)
 rintro k hk
 refine gk_region env false [] [0,1,4,5,6,12] ?_
 refine gk_ifd (fun c1=> ?_) (fun c1=> ?_)
 ·try simp only[toN]at c1
  refine gk_region env false [] [0,1,4,5,6,7] ?_
  refine gk_region env false [] [0,1,4,5,6,7,8] ?_
  refine gk_region env false [] [0,1,4,5,6,7,8,9] ?_
  refine gk_loop (α:=Nat×Bool×Bool) (fun x=>(x.1≤f.length∧yesF f k 0=(x.2.1||yesF f k x.1))∧noF f k 0=(x.2.2||noF f k x.1)) (fun x=>[(9,iG x.1),(7,bG x.2.1),(8,bG x.2.2)]) (fun _=>[]) (fun x=>f.length-x.1) (0,false,false) ⟨⟨Nat.zero_le _,rfl⟩,rfl⟩ ?_ (hp:=by simp only[AllP];repeat' first|exact trivial|exact EntL.refl _|exact BEntL.refl _|exact rfl|omega|apply And.intro|intro _)
  rintro ⟨i,y,n⟩ ⟨⟨hi,hy⟩,hn⟩
  dsimp only at*
  refine gk_region env false [] [0,1,4,5,6,7,8,9,18] ?_
  refine gk_ifd (fun c2=> ?_) (fun c2=> ?_)
  ·try simp only[toN]at c2
   refine gk_region env false [] [0,1,4,5,6,7,8,9,28] ?_
   refine gk_ifd (fun c3=> ?_) (fun c3=> ?_)
   ·try simp only[toN]at c3
    refine gk_region env false [] [0,1,4,5,6,7,8,9] ?_
    refine gk_region env false [] [0,1,4,5,6,7,8,9] ?_
    refine gk_round ((i+1,y,true)) ?_ (hp:=by simp only[AllP];repeat' first|exact trivial|exact EntL.refl _|exact BEntL.refl _|exact rfl|omega|apply And.intro|intro _)
    have hb:(bitB k (f.getD i default))=true:=decide_eq_true c3
    refine ⟨⟨by simp only;omega,?_⟩,?_⟩
    ·simp only;rw[hy,yesF_p (by omega),hb];rfl
    ·simp only;rw[hn,noF_p (by omega),hb];cases n<;>rfl
   ·try simp only[toN]at c3
    refine gk_region env false [] [0,1,4,5,6,7,8,9] ?_
    refine gk_region env false [] [0,1,4,5,6,7,8,9] ?_
    refine gk_round ((i+1,true,n)) ?_ (hp:=by simp only[AllP];repeat' first|exact trivial|exact EntL.refl _|exact BEntL.refl _|exact rfl|omega|apply And.intro|intro _)
    have hb:(bitB k (f.getD i default))=false:=decide_eq_false c3
    refine ⟨⟨by simp only;omega,?_⟩,?_⟩
    ·simp only;rw[hy,yesF_p (by omega),hb];cases y<;>rfl
    ·simp only;rw[hn,noF_p (by omega),hb];rfl
  ·try simp only[toN]at c2
   refine gk_region env false [] [0,1,4,5,6,32] ?_
   refine gk_if (fun c4=> ?_) (fun c4=> ?_)
   ·try simp only[bb,toN]at c4
    have hd:=dN_b f k (by omega)
    have hpw:=powN_b (k:=k) (by omega)
    have hbp:1≤shlI .i64 1 (k:Int)∧shlI .i64 1 (k:Int)≤128:=bitP_b (k:=k) (by omega)
    refine gk_region env false [] [0,1,4,5,6] ?_
    have hyy:=hy
    have hnn:=hn
    rw[yesF_n (i:=i) (by omega),Bool.or_false]at hyy
    rw[noF_n (i:=i) (by omega),Bool.or_false]at hnn
    have hdn:dN f (k+1)=dN f k+bitP k:=by rw[dN,hyy,hnn,c4.1,c4.2];rfl
    refine gk_region env false [] [0,1,4,5,6] ?_
    refine gk_round (k+1) ?_ (hp:=by simp only[AllP,hdn];repeat' first|exact trivial|exact EntL.refl _|exact BEntL.refl _|exact rfl|omega|apply And.intro|intro _)
    omega
   ·try simp only[bb,toN]at c4
    have hyy:=hy
    have hnn:=hn
    rw[yesF_n (i:=i) (by omega),Bool.or_false]at hyy
    rw[noF_n (i:=i) (by omega),Bool.or_false]at hnn
    have hdn:dN f (k+1)=dN f k:=by rw[dN,hyy,hnn];rcases c4 with h|h<;>rw[h]<;>simp
    refine gk_region env false [] [0,1,4,5,6] ?_
    refine gk_round (k+1) ?_ (hp:=by simp only[AllP,hdn];repeat' first|exact trivial|exact EntL.refl _|exact BEntL.refl _|exact rfl|omega|apply And.intro|intro _)
    omega
 ·try simp only[toN]at c1
  refine gk_region env false [] [4] ?_
  refine gk_ret env ?_
  obtain rfl:k=m:=by omega
  rfl
theorem GC.read_in (docs:List Dc) (hd:FitL docs) (i:Nat) (h:(countsE docs).2.2=0) (hi:(i:Int)<(countsE docs).2.1):GC Tryz.prog 168 [rowDc docs,iG i] (.tup [rowP (readL docs (countsE docs).1 i),iG 0]):=by
 have e:=read34_ok docs hd i
 rw[if_pos ⟨h,by omega,hi⟩,if_pos h,if_pos ⟨by omega,hi⟩]at e
 exact e
theorem failing34_ok (l:List Dm) (hl:l.length≤8) (docs:List Dc) (hd:FitL docs) (h0:(countsE docs).2.2=0) (n:Nat) (hn:(countsE docs).2.1=n) (hn2:n≤4096):GC Tryz.prog 159 [rowD l,rowDc docs,iG n] (rowI (failK l docs n)):=by
 refine gc_of_gk Tryz.func159 ?_
 refine gk_region env false [] [0,1,2,6] ?_
 refine gk_region env false [.el default inC []] [0,1,2,6,7] ?_ (hp:=(by simp only[AllP,Int.toNat_natCast];repeat' first|exact trivial|exact EntL.refl _|exact BEntL.refl _|exact rfl|omega|apply And.intro|intro _|(simp[rowL];done)|(simp only[List.length_append,List.length_cons,List.length_nil];omega)|(simp[*];done)))
 refine gk_region env false [] [0,1,2,6,7,8] ?_
 refine gk_loop (α:=Nat) (fun i=>i≤n) (fun i=>[(8,iG i),(7,.sl 0 1 0 (failK l docs i).length)]) (fun i=>[(0,some (.row 3 1 (default:Int) inC (failK l docs i) 0))]) (fun i=>n-i) 0 (Nat.zero_le _) ?_ (hp:=by simp only[AllP];repeat' first|exact trivial|exact EntL.refl _|exact BEntL.refl _|exact rfl|omega|apply And.intro|intro _|(simp;done))
 rintro i hi
 refine gk_region env false [] [0,1,2,6,7,8,17] ?_
 refine gk_ifd (fun c1=> ?_) (fun c1=> ?_)
 ·try simp only[toN]at c1
  have hfx:∀x,x∈(failV l (readL docs (countsE docs).1 i))→0≤x∧x<8:=fun x hx=>by have:=failV_ix hx;omega
  have hfl:=failV_len l (readL docs (countsE docs).1 i)
  have hkl:=failK_len l docs i
  refine gk_region env false [.call (GC.read_in docs hd i h0 (by omega))] [0,1,2,6,7,8,9] ?_
  refine gk_region env false [.call (GC.lift (rfailing_ok l (by omega) (readL docs (countsE docs).1 i) (readL_short hd.len _ _)))] [0,1,2,6,7,8,11] ?_
  refine gk_region env false [] [0,1,2,6,7,8,11,12] ?_
  refine gk_region env false [] [0,1,2,6,7,8,11,12,13] ?_
  refine gk_loop (α:=Nat) (fun j=>j≤(failV l (readL docs (countsE docs).1 i)).length) (fun j=>[(13,iG j),(12,iG (sumS ((failV l (readL docs (countsE docs).1 i)).take j)))]) (fun _=>[]) (fun j=>(failV l (readL docs (countsE docs).1 i)).length-j) 0 (Nat.zero_le _) ?_ (hp:=by simp only[AllP];repeat' first|exact trivial|exact EntL.refl _|exact BEntL.refl _|exact rfl|omega|apply And.intro|intro _)
  rintro j hj
  refine gk_region env false [] [0,1,2,6,7,8,11,12,13,32] ?_
  refine gk_ifd (fun c2=> ?_) (fun c2=> ?_)
  ·try simp only[toN]at c2
   have hfa:=hfx _ (getD_mem (l:=(failV l (readL docs (countsE docs).1 i))) (i:=j) (by omega))
   have htj:=sumS_b (a:=(failV l (readL docs (countsE docs).1 i)).take j) fun x hx=>hfx x (List.mem_of_mem_take hx)
   have htl:((failV l (readL docs (countsE docs).1 i)).take j).length=j:=by rw[List.length_take];omega
   rw[htl]at htj
   have hbp:1≤shlI .i64 1 ((failV l (readL docs (countsE docs).1 i)).getD j default)∧shlI .i64 1 ((failV l (readL docs (countsE docs).1 i)).getD j default)≤128:=by have:=bitP_b (k:=((failV l (readL docs (countsE docs).1 i)).getD j default).toNat) (by omega);rw[bitP,show ((((failV l (readL docs (countsE docs).1 i)).getD j default).toNat:Nat):Int)=(failV l (readL docs (countsE docs).1 i)).getD j default by omega]at this;exact this
   have hnx:sumS ((failV l (readL docs (countsE docs).1 i)).take (j+1))=sumS ((failV l (readL docs (countsE docs).1 i)).take j)+shlI .i64 1 ((failV l (readL docs (countsE docs).1 i)).getD j default):=by rw[take_next (by omega),sumS_app,bitP,show ((((failV l (readL docs (countsE docs).1 i)).getD j default).toNat:Nat):Int)=(failV l (readL docs (countsE docs).1 i)).getD j default by omega]
   refine gk_region env false [] [0,1,2,6,7,8,11,12,13] ?_
   refine gk_region env false [] [0,1,2,6,7,8,11,12,13] ?_
   refine gk_round (j+1) ?_ (hp:=by simp only[AllP,hnx];repeat' first|exact trivial|exact EntL.refl _|exact BEntL.refl _|exact rfl|omega|apply And.intro|intro _)
   omega
  ·try simp only[toN]at c2
   have hse:sumS ((failV l (readL docs (countsE docs).1 i)).take j)=setK l docs i:=by rw[List.take_of_length_le (by omega)];rfl
   refine gk_region env false [.el default inC [setK l docs i],.el default inC (failK l docs i++ [setK l docs i])] [0,1,2,6,7,8] ?_ (hp:=(by simp only[AllP,Int.toNat_natCast,hse];repeat' first|exact trivial|exact EntL.refl _|exact BEntL.refl _|exact rfl|omega|apply And.intro|intro _|(simp[rowL];done)|(simp only[List.length_append,List.length_cons,List.length_nil];omega)))
   refine gk_region env false [] [0,1,2,6,7,8] ?_
   refine gk_round (i+1) ?_ (hp:=by simp only[AllP,failK_next];repeat' first|exact trivial|exact EntL.refl _|exact BEntL.refl _|exact rfl|omega|apply And.intro|intro _|(simp;done))
   omega
 ·try simp only[toN]at c1
  refine gk_region env false [] [6] ?_
  refine gk_ret env ?_
  obtain rfl:i=n:=by omega
  rfl
end Go.Gh
namespace Go.Gh
open Go Go.Proofs
set_option maxRecDepth 1000000
set_option maxHeartbeats 2000000
set_option linter.unusedSimpArgs false
set_option linter.unusedVariables false
set_option linter.unnecessarySimpa false
set_option linter.unusedSectionVars false
variable [PowTab] [ItoaU]
open Go.RowKit
def chkK (l:List Dm) (docs:List Dc):Int:=if rprintOk l=true then (countsE docs).2.2 else 2
def nK (docs:List Dc):Nat:=(countsE docs).2.1.toNat
theorem nK_eq {docs:List Dc} (h:(countsE docs).2.2=0):(countsE docs).2.1=(nK docs:Int)∧nK docs≤4096∧1≤nK docs:=by
 have hc:=countsE_ok h
 have h1:=hc.n0
 have h2:=hc.n1
 unfold nK
 omega
def zN (f:List Int) (i:Nat):Nat:=((f.take i).filter fun x=>decide (x=0)).length
theorem zN_next {f:List Int} {i:Nat} (h:i<f.length):zN f (i+1)=zN f i+if f.getD i default=0 then 1 else 0:=by
 rw[zN,zN,take_next h,List.filter_append,List.length_append]
 congr 1
 by_cases e:f.getD i default=0
 ·rw[if_pos e,List.filter_cons_of_pos (by rw[e];rfl)];rfl
 ·rw[if_neg e,List.filter_cons_of_neg (by simpa using e)];rfl
theorem zN_b (f:List Int) (i:Nat):zN f i≤i:=by
 unfold zN
 have:=List.length_filter_le (fun x=>decide (x=0)) (f.take i)
 rw[List.length_take]at this
 omega
def stK (l:List Dm) (docs:List Dc):Int:=if chkK l docs=0 then if zN (failK l docs (nK docs)) (nK docs)=0 then 0 else if zN (failK l docs (nK docs)) (nK docs)=nK docs then 1 else 2 else 0
theorem check34_ok (l:List Dm) (hl:l.length≤8) (hf:∀d,d∈l→FewD d) (docs:List Dc) (hd:FitL docs):GC Tryz.prog 158 [rowD l,rowDc docs] (iG (chkK l docs)):=by
 refine gc_of_gk Tryz.func158 ?_
 refine gk_region env false [] [0,1,4] ?_
 refine gk_region env false [.call (rprint_ok l (by omega) hf)] [0,1,4,6] ?_
 refine gk_region env false [] [0,1,4,15] ?_
 refine gk_if (fun c1=> ?_) (fun c1=> ?_)
 ·try simp only[bb,toN]at c1
  refine gk_region env false [] [0,1,4] ?_
  refine gk_ret env ?_
  rw[chkK,if_neg (by rw[c1];simp)];rfl
 ·try simp only[bb,toN]at c1
  refine gk_region env false [.call (count34_ok docs hd)] [0,1,4,7,8] ?_
  refine gk_region env false [] [0,1,4,7,8,22] ?_
  refine gk_ifn (fun c2=> ?_) (fun c2=> ?_)
  ·try simp only[toN]at c2
   refine gk_region env false [] [0,1,4,7] ?_
   refine gk_ret env ?_
   rw[chkK,if_pos c1];rfl
  ·try simp only[toN]at c2
   have hnk:=nK_eq c2
   have hfl:=failing34_ok l hl docs hd c2 (nK docs) hnk.1 hnk.2.1
   rw[←hnk.1]at hfl
   have hfn:=failK_len l docs (nK docs)
   have hdb:=dN_b (failK l docs (nK docs)) l.length hl
   have hpw:=powN_b (k:=l.length) hl
   have hsz:=size_few (s:=dN (failK l docs (nK docs)) l.length) (by omega) (by omega)
   refine gk_region env false [.call hfl,.call (doubt34_ok (failK l docs (nK docs)) (by omega) l.length hl),.call (size34_ok (dN (failK l docs (nK docs)) l.length))] [4,32] ?_
   refine gk_ifd (fun c3=> ?_) (fun c3=> ?_)
   ·try simp only[toN]at c3
    omega
   ·try simp only[toN]at c3
    refine gk_region env false [] [4] ?_
    refine gk_ret env ?_
    rw[chkK,if_pos c1,c2];rfl
theorem state34_ok (l:List Dm) (hl:l.length≤8) (hf:∀d,d∈l→FewD d) (docs:List Dc) (hd:FitL docs):GC Tryz.prog 148 [rowD l,rowDc docs] (.tup [iG (stK l docs),iG (chkK l docs)]):=by
 refine gc_of_gk Tryz.func148 ?_
 refine gk_region env false [] [0,1,4,5] ?_
 refine gk_region env false [.call (check34_ok l hl hf docs hd)] [0,1,4,5,6] ?_
 refine gk_region env false [] [0,1,4,5,6,16] ?_
 refine gk_ifn (fun c1=> ?_) (fun c1=> ?_)
 ·try simp only[toN]at c1
  refine gk_region env false [] [0,1,4,5] ?_
  refine gk_ret env ?_
  rw[stK,if_neg c1];rfl
 ·try simp only[toN]at c1
  have hcc:(countsE docs).2.2=0:=by unfold chkK at c1;split at c1;exact c1;omega
  have hnk:=nK_eq hcc
  have hfl:=failing34_ok l hl docs hd hcc (nK docs) hnk.1 hnk.2.1
  rw[←hnk.1]at hfl
  have hfn:=failK_len l docs (nK docs)
  refine gk_region env false [.call (count34_ok docs hd)] [0,1,4,5,7] ?_
  refine gk_region env false [.call hfl] [4,5,9] ?_
  refine gk_region env false [] [4,5,9,10] ?_
  refine gk_region env false [] [4,5,9,10,11] ?_
  refine gk_loop (α:=Nat) (fun i=>i≤nK docs) (fun i=>[(11,iG i),(10,iG (zN (failK l docs (nK docs)) i))]) (fun _=>[]) (fun i=>nK docs-i) 0 (Nat.zero_le _) ?_ (hp:=by simp only[AllP];repeat' first|exact trivial|exact EntL.refl _|exact BEntL.refl _|exact rfl|omega|apply And.intro|intro _)
  rintro i hi
  refine gk_region env false [] [4,5,9,10,11,30] ?_
  refine gk_ifd (fun c2=> ?_) (fun c2=> ?_)
  ·try simp only[toN]at c2
   refine gk_region env false [] [4,5,9,10,11,37] ?_
   refine gk_ifd (fun c3=> ?_) (fun c3=> ?_)
   ·try simp only[toN]at c3
    have hzn:=zN_next (f:=(failK l docs (nK docs))) (i:=i) (by omega)
    have hzb:=zN_b (failK l docs (nK docs)) i
    refine gk_region env false [] [4,5,9,10,11] ?_
    refine gk_region env false [] [4,5,9,10,11] ?_
    refine gk_round (i+1) ?_ (hp:=by simp only[AllP,hzn,if_pos c3];repeat' first|exact trivial|exact EntL.refl _|exact BEntL.refl _|exact rfl|omega|apply And.intro|intro _)
    omega
   ·try simp only[toN]at c3
    have hzn:=zN_next (f:=(failK l docs (nK docs))) (i:=i) (by omega)
    refine gk_region env false [] [4,5,9,10,11] ?_
    refine gk_round (i+1) ?_ (hp:=by simp only[AllP,hzn,if_neg c3];repeat' first|exact trivial|exact EntL.refl _|exact BEntL.refl _|exact rfl|omega|apply And.intro|intro _)
    omega
  ·try simp only[toN]at c2
   refine gk_region env false [] [4,5,9,10,41] ?_
   refine gk_ifd (fun c4=> ?_) (fun c4=> ?_)
   ·try simp only[toN]at c4
    refine gk_region env false [] [4,5,9,10] ?_
    refine gk_ret env ?_
    obtain rfl:i=nK docs:=by omega
    rw[stK,if_pos c1,if_pos (by omega),c1];rfl
   ·try simp only[toN]at c4
    refine gk_region env false [] [4,5,45] ?_
    refine gk_ifd (fun c5=> ?_) (fun c5=> ?_)
    ·try simp only[toN]at c5
     refine gk_region env false [] [4,5] ?_
     refine gk_ret env ?_
     obtain rfl:i=nK docs:=by omega
     rw[stK,if_pos c1,if_neg (by omega),if_pos (by omega),c1];rfl
    ·try simp only[toN]at c5
     refine gk_region env false [] [4,5] ?_
     refine gk_ret env ?_
     obtain rfl:i=nK docs:=by omega
     rw[stK,if_pos c1,if_neg (by omega),if_neg (by omega),c1];rfl
theorem conform37_st (l:List Dm) (hl:l.length≤8) (hf:∀d,d∈l→FewD d) (docs:List Dc) (hd:FitL docs):GC Tryz.prog 128 [rowD l,rowDc docs] (bG (decide (chkK l docs=0)&&decide (stK l docs=1))):=by
 refine gc_of_gk Tryz.func128 ?_
 refine gk_region env false [] [0,1,4] ?_
 refine gk_region env false [.call (state34_ok l hl hf docs hd)] [4,5,6] ?_
 refine gk_region env false [] [4] ?_
 refine gk_ret env ?_
 simp only[tupG]
 cases decide (chkK l docs=0)<;>rfl
end Go.Gh
namespace Go.Gh
open Go Go.Proofs
set_option maxRecDepth 1000000
set_option maxHeartbeats 2000000
set_option linter.unusedSimpArgs false
set_option linter.unusedVariables false
set_option linter.unnecessarySimpa false
set_option linter.unusedSectionVars false
variable [PowTab] [ItoaU]
open Go.RowKit
theorem ofI_small {a:Int} (h0:0≤a) (h1:a<256):(BitVec.ofInt 64 a).toNat=a.toNat:=by
 have e:a=((a.toNat:Nat):Int):=by omega
 rw[e,BitVec.ofInt_natCast,BitVec.toNat_ofNat]
 simp only[Int.toNat_natCast]
 exact Nat.mod_eq_of_lt (by omega)
theorem orI_small {a b:Int} (ha:0≤a∧a<256) (hb:0≤b∧b<256):0≤orI .u64 a b∧orI .u64 a b<256:=by
 have h:(BitVec.ofInt 64 a|||BitVec.ofInt 64 b).toNat<2^8:=by
  rw[BitVec.toNat_or,ofI_small ha.1 ha.2,ofI_small hb.1 hb.2]
  exact Nat.or_lt_two_pow (by omega) (by omega)
 show 0≤IntKind.u64.wrap ((BitVec.ofInt 64 a|||BitVec.ofInt 64 b).toNat:Nat)∧IntKind.u64.wrap ((BitVec.ofInt 64 a|||BitVec.ofInt 64 b).toNat:Nat)<256
 rw[wrap_u64 (BitVec.ofInt 64 a|||BitVec.ofInt 64 b).isLt]
 omega
theorem andNot_small {a b:Int} (ha:0≤a∧a<256):0≤andNotI .u64 a b∧andNotI .u64 a b<256:=by
 have h:(BitVec.ofInt 64 a&&& ~~~(BitVec.ofInt 64 b)).toNat≤(BitVec.ofInt 64 a).toNat:=by
  rw[BitVec.toNat_and];exact Nat.and_le_left
 rw[ofI_small ha.1 ha.2]at h
 show 0≤IntKind.u64.wrap ((BitVec.ofInt 64 a&&& ~~~(BitVec.ofInt 64 b)).toNat:Nat)∧IntKind.u64.wrap ((BitVec.ofInt 64 a&&& ~~~(BitVec.ofInt 64 b)).toNat:Nat)<256
 rw[wrap_u64 (BitVec.ofInt 64 a&&& ~~~(BitVec.ofInt 64 b)).isLt]
 omega
theorem shl_small {k:Int} (h0:0≤k) (h1:k<8):0≤shlI .u64 1 k∧shlI .u64 1 k<256:=by
 have h:∀j:Fin 8,0≤shlI .u64 1 ((j.val:Nat):Int)∧shlI .u64 1 ((j.val:Nat):Int)<256:=by decide+kernel
 have e:k=((k.toNat:Nat):Int):=by omega
 rw[e]
 exact h ⟨k.toNat,by omega⟩
theorem bitsF_small {ks:List Int} (hk:∀x,x∈ks→0≤x∧x<8):∀(n i:Nat) (s:Int),ks.length-i=n→0≤s∧s<256→0≤bitsF ks i s∧bitsF ks i s<256:=by
 intro n
 induction n with
 |zero=>intro i s hn hs;rw[bitsF,if_neg (by omega)];exact hs
 |succ n ih=>
  intro i s hn hs
  rw[bitsF,if_pos (by omega)]
  have h1:=hk _ (getD_mem (l:=ks) (i:=i) (by omega))
  exact ih (i+1) _ (by omega) (orI_small hs (shl_small h1.1 h1.2))
theorem setAt_small {l:List Dm} (hl:l.length≤8) (docs:List Dc) (cs:List Int) (i:Nat):0≤setAt l docs cs i∧setAt l docs cs i<256:=
 bitsF_small (fun x hx=>by have:=failV_ix hx;omega) _ 0 0 rfl (by omega)
theorem orL_small:∀(xs:List Int) (a:Int),(∀x,x∈xs→0≤x∧x<256)→0≤a∧a<256→0≤xs.foldl (orI .u64) a∧xs.foldl (orI .u64) a<256
 | [],a,_,h=>h
 |x::xs,a,hx,h=>by
  simp only[List.foldl_cons]
  exact orL_small xs _ (fun y hy=>hx y (by simp[hy])) (orI_small h (hx x (by simp)))
theorem ones_small {x:Int} (h0:0≤x) (h1:x<256):onesE x≤8:=by
 have h:∀j:Fin 256,onesE ((j.val:Nat):Int)≤8:=by decide+kernel
 have e:x=((x.toNat:Nat):Int):=by omega
 rw[e]
 exact h ⟨x.toNat,by omega⟩
theorem look_few {l:List Dm} (hl:l.length≤8) (hf:∀d,d∈l→FewD d) (docs:List Dc):lookErr l docs=chkK l docs:=by
 have hd:onesE (doubtE l docs)≤8:=by
  have h1:0≤orL (setsL l docs)∧orL (setsL l docs)<256:=orL_small _ 0 (fun x hx=>by
   unfold setsL at hx
   obtain ⟨i,_,rfl⟩:=List.mem_map.1 hx
   exact setAt_small hl docs _ i) (by omega)
  have h2:=andNot_small (b:=neverE l docs) h1
  exact ones_small h2.1 h2.2
 unfold lookErr chkK
 rw[printOk_eq hf]
 cases printOk l with
 |false=>rw[if_pos rfl,if_neg (by simp)]
 |true=>
  rw[if_neg (by simp),if_pos rfl]
  split
  ·rename_i h;rw[if_neg (by omega),h]
  ·rfl
theorem dedL_zero:∀(xs acc:List Int),(∀x,x∈xs→x=0)→acc= [0]→xs.foldl (fun acc x=>if acc.contains x then acc else acc++ [x]) acc= [0]
 | [],acc,_,h=>h
 |x::xs,acc,hx,h=>by
  have h0:=hx x (by simp)
  subst h;subst h0
  simp only[List.foldl_cons]
  exact dedL_zero xs _ (fun y hy=>hx y (by simp[hy])) (by simp)
theorem dedL_zeros {xs:List Int} (hx:∀x,x∈xs→x=0) (hn:xs≠ []):dedL xs= [0]:=by
 obtain ⟨x,xs',rfl⟩:=List.exists_cons_of_ne_nil hn
 have h0:=hx x (by simp)
 subst h0
 unfold dedL
 simp only[List.foldl_cons]
 exact dedL_zero xs' _ (fun y hy=>hx y (by simp[hy])) (by simp)
theorem zN_all {f:List Int} {n:Nat} (hn:f.length=n):zN f n=n↔∀x,x∈f→x=0:=by
 unfold zN
 rw[List.take_of_length_le (by omega),←hn,List.length_filter_eq_length_iff]
 simp
theorem conf_few {l:List Dm} (hl:l.length≤8) (hf:∀d,d∈l→FewD d) (docs:List Dc):(decide (chkK l docs=0)&&decide (stK l docs=1))=confV l docs:=by
 have hlk:=look_few hl hf docs
 rw[confV,hlk]
 by_cases h:chkK l docs=0
 ·rw[decide_eq_true h]
  simp only[Bool.true_and,cond_true]
  have hcc:(countsE docs).2.2=0:=by unfold chkK at h;split at h;exact h;omega
  have hnk:=nK_eq hcc
  have hfl:=failK_len l docs (nK docs)
  have hs:setsL l docs=(List.range (nK docs)).map (setAt l docs (countsE docs).1):=rfl
  have key:stK l docs=1↔∀i,i<nK docs→failV l (readL docs (countsE docs).1 i)= []:=by
   rw[stK,if_pos h]
   have hall:zN (failK l docs (nK docs)) (nK docs)=nK docs↔∀i,i<nK docs→failV l (readL docs (countsE docs).1 i)= []:=by
    rw[zN_all hfl]
    constructor
    ·intro hx i hi
     exact (setK_b hl).2.2.1 (hx _ (List.mem_map.2 ⟨i,List.mem_range.2 hi,rfl⟩))
    ·intro hx x hx2
     obtain ⟨i,hi,rfl⟩:=List.mem_map.1 hx2
     exact (setK_b hl).2.2.2 (hx i (List.mem_range.1 hi))
   rw[←hall]
   split
   ·omega
   ·split
    ·simp_all
    ·simp_all
  have key2:stateE l docs=1↔∀i,i<nK docs→failV l (readL docs (countsE docs).1 i)= []:=by
   constructor
   ·intro h1 i hi
    have hcf:confV l docs=true:=by rw[confV,hlk,decide_eq_true h,decide_eq_true h1];rfl
    exact (conf_all (by omega) hcf).2 i (by omega)
   ·intro hx
    have hz:lookS l docs= [0]:=by
     rw[lookS,if_pos (by rw[hlk];exact h),hs]
     refine dedL_zeros (fun x hx2=> ?_) (fun e=> ?_)
     ·obtain ⟨i,hi,rfl⟩:=List.mem_map.1 hx2
      rw[setAt,hx i (List.mem_range.1 hi),bitsE,bitsF,if_neg (by simp)]
     ·have:=congrArg List.length e
      simp at this
      omega
    rw[stateE,if_pos (by rw[hlk];exact h),hz]
    rfl
  by_cases hk:stK l docs=1
  ·rw[decide_eq_true hk,decide_eq_true (key2.2 (key.1 hk))]
  ·rw[decide_eq_false hk,decide_eq_false (fun h2=>hk (key.2 (key2.1 h2)))]
 ·rw[decide_eq_false h];rfl
theorem conform37_ok (l:List Dm) (hl:l.length≤8) (hf:∀d,d∈l→FewD d) (docs:List Dc) (hd:FitL docs):GC Tryz.prog 128 [rowD l,rowDc docs] (bG (confV l docs)):=by
 rw[←conf_few hl hf docs];exact conform37_st l hl hf docs hd
end Go.Gh
