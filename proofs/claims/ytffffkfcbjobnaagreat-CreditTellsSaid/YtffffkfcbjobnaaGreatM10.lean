/- Walks by the logic of calls, and plain laws (several texts in one). -/
import Derived.Test.YtffffkfcbjobnaaGreatM9
import Derived.Test.YtffffkfcbjobnaaGreatGh3
import Derived.Lib.ItoaMem
import Derived.Lib.ItoaWalk
import Derived.Laws.IdiomStrings
import Derived.BigCall
import Derived.BigGuard
import Derived.Lib.Walk
import Derived.RegionTactic
import Derived.Test.YtffffkfcbjobnaaGreatRows
import Derived.ProofKit
import Derived.OpenShut
import Derived.ShutString
import Derived.ChangeOld
import Derived.Deep.Slices
import Derived.Deep.Fields
import Derived.ChangeSame
import Derived.HandedShaped
import Derived.Lib.LaidTab
namespace Go.Gh
open Go Go.Proofs
set_option maxRecDepth 1000000
set_option maxHeartbeats 2000000
set_option linter.unusedSimpArgs false
set_option linter.unusedVariables false
set_option linter.unnecessarySimpa false
set_option linter.unusedSectionVars false
variable [PowTab]
open Go.RowKit Go.Shelf Go.Lib
def ndU (u:Nat):Nat:=Lib.l10 (Lib.bitLen u)+if PowTab.v.getD (Lib.l10 (Lib.bitLen u)) 0≤(u:Int)then 1 else 0
set_option maxRecDepth 100000 in
set_option maxHeartbeats 4000000 in
theorem numD_calls (w:World) (hT:Lib.TabIs Tryz.prog w "internal/strconv.uint64pow10" .u64 PowTab.v) (u:Nat) (h1:1≤u) (h2:u<18446744073709551616):
 Calls Tryz.prog 226 #[.int .u64 u] w fun e w'=>e= .returned (.int .i64 (ndU u))∧w'=w:=by
 obtain ⟨_,h19⟩:=Lib.numDigits_eq u h1 h2
 have hL:Lib.bitLen u≤64:=Lib.bitLen_le u 64 (Nat.le_refl _) h2
 have hg:Program.globalNamed Tryz.prog "internal/strconv.uint64pow10" =some 1:=by kernel_rfl
 have hcell:w.cell? ⟨1,Lib.l10 (Lib.bitLen u),none⟩=some (.int .u64 (PowTab.v.getD (Lib.l10 (Lib.bitLen u)) 0)):=hT.cell hg _ (by rw[PowTab.len];omega)
 have hto:((u:Int)).toNat=u:=by omega
 have hnd:ndU u=Lib.l10 (Lib.bitLen u)+if PowTab.v.getD (Lib.l10 (Lib.bitLen u)) 0≤(u:Int)then 1 else 0:=rfl
 generalize hq:Lib.l10 (Lib.bitLen u)=q at hnd h19 hcell
 generalize hTt:PowTab.v.getD q 0=T at hnd hcell
 have h20:q<20:=by omega
 have Hnd:=Lib.hid hnd
 clear hnd hT hg
 go_enter Tryz.func226,Tryz.ntmps226
 go_wp2_with (first
  |(go_at_call 230;refine (Tryz.bits_Len64 _ _ (by omega) (by omega)).mono ?_;rintro e w' ⟨rfl,rfl⟩)
  |(go_at_call 229;refine (Tryz.internal_strconv_log10Pow2 _ (by first|exact hL|(rw[hto];exact hL)) _).mono ?_;rintro e w' ⟨rfl,rfl⟩)
  |(go_at_call 231;refine (Tryz.internal_strconv_bool2_int _ _).mono ?_;rintro e w' ⟨rfl,rfl⟩))
 all_goals go_ret
 all_goals (
  refine ⟨?_,rfl⟩
  have hnd:=Hnd.out
  congr 2
  split at hnd<;>simp_all<;>omega)
def zer24:List Int:=List.replicate 24 0
def nd20 (u:Nat):Nat:=min 20 (ndU u)
def itB (u:Nat):List UInt8:=(((fm8 (nd20 u) u zer24).drop 1).take (nd20 u)).map fun c=>UInt8.ofNat c.toNat
def itU (n:Int):ByteArray:=if 0≤n∧n<100 then ⟨(Lib.itoa n).toArray⟩else ⟨(itB n.toNat).toArray⟩
def Byt (l:List Int):Prop:=∀c,c∈l→0≤c∧c≤255
theorem Byt.wr {l:List Int} (h:Byt l) {k v:Int} (hv:0≤v∧v≤255):Byt (wrL l k v):=fun c hc=>by
 rcases List.mem_or_eq_of_mem_set hc with hc|rfl
 ·exact h c hc
 ·exact hv
theorem u8_in (v:Int):0≤IntKind.u8.wrap v∧IntKind.u8.wrap v≤255:=by
 rw[IntKind.wrap_u8];omega
theorem Byt.f1 {l:List Int} (h:Byt l) {k x:Int} :Byt (fm1 k x l):=by
 unfold fm1;split
 ·exact h.wr (u8_in _)
 ·exact h
theorem Byt.f2 {l:List Int} (h:Byt l) {k x:Int} :Byt (fm2 k x l):=by
 unfold fm2;split
 ·exact ((h.wr (smV_in _)).wr (smV_in _)).f1
 ·exact h.f1
theorem Byt.f4 {l:List Int} (h:Byt l) {k x:Int} :Byt (fm4 k x l):=by
 unfold fm4;split
 ·exact ((((h.wr (smV_in _)).wr (smV_in _)).wr (smV_in _)).wr (smV_in _)).f2
 ·exact h.f2
theorem Byt.f8:∀(k:Nat) {l:List Int} (h:Byt l) {v:Int},Byt (fm8 k v l):=by
 intro k
 induction k using Nat.strongRecOn with
 |_ k ih=>
  intro l h v
  rw[fm8]
  split
  ·exact ih (k-8) (by omega) ((((((((h.wr (smV_in _)).wr (smV_in _)).wr (smV_in _)).wr (smV_in _)).wr (smV_in _)).wr (smV_in _)).wr (smV_in _)).wr (smV_in _))
  ·exact h.f4
theorem len1 (l:List Int) (k x:Int):(fm1 k x l).length=l.length:=by unfold fm1;split<;>simp[wrL_len]
theorem len2 (l:List Int) (k x:Int):(fm2 k x l).length=l.length:=by unfold fm2;split<;>simp[wrL_len,len1]
theorem len4 (l:List Int) (k x:Int):(fm4 k x l).length=l.length:=by unfold fm4;split<;>simp[wrL_len,len2]
theorem len8:∀(k:Nat) (l:List Int) (v:Int),(fm8 k v l).length=l.length:=by
 intro k
 induction k using Nat.strongRecOn with
 |_ k ih=>
  intro l v
  rw[fm8]
  split
  ·rw[ih (k-8) (by omega)];simp[oct,wrL_len]
  ·exact len4 _ _ _
theorem itB_len (u:Nat):(itB u).length=nd20 u:=by
 have:nd20 u≤20:=Nat.min_le_left _ _
 rw[itB,List.length_map,List.length_take,List.length_drop,len8]
 simp[zer24];omega
theorem itU_size (n:Int):(itU n).size≤24:=by
 unfold itU
 split
 ·rename_i h
  obtain ⟨i,rfl⟩:∃i:Nat,n=i:=⟨n.toNat,by omega⟩
  show ((Lib.itoa (i:Int)).toArray).size≤24
  rw[List.size_toArray,Lib.itoa_nonneg,Lib.decDigits_length]
  have h1:=Lib.numDigits_eq
  by_cases hi:i=0
  ·subst hi
   have h0:Lib.nDigits 0=1:=by kernel_rfl
   omega
  ·have:=(h1 i (by omega) (by omega)).1
   have h2:=(h1 i (by omega) (by omega)).2
   split at this<;>omega
 ·show ((itB n.toNat).toArray).size≤24
  rw[List.size_toArray,itB_len]
  have:nd20 n.toNat≤20:=Nat.min_le_left _ _
  omega
theorem fmt10_calls (w:World) (nd:Nat) (hn:nd≤20) (u:Nat) (hu:u<18446744073709551616) (F:Fz) (hg:Glob F w) (ho:∀b o,F b o→b<w.heap.size) (ho2:∀b o,F b o→(w.cell? ⟨b,o,none⟩).isSome=true):
 Calls Tryz.prog 227 #[.slice (some ⟨w.heap.size,1,none⟩) nd 23,.int .u64 u] (w.alloc (.cells Lib.zeros24 271)) fun e w'=>e= .returned (.tuple #[])∧Below w.heap.size w w'∧∀i c,(fm8 nd u zer24)[i]? =some c→w'.cell? ⟨w.heap.size,i,none⟩=some (.int .u8 c):=by
 have hW:(w.alloc (.cells Lib.zeros24 271)).heap[w.heap.size]? =some (.cells Lib.zeros24 271 (0,0)):=World.alloc_heap_new w _
 have hb0:Below w.heap.size w (w.alloc (.cells Lib.zeros24 271)):=(Below.refl _ w).alloc (Nat.le_refl _) _
 have hk0:Keep F w F (w.alloc (.cells Lib.zeros24 271)):=keep_below ho2 hb0
 have hrel:Rel (fun i=>if i=0 then some (w.heap.size,24)else none) F (w.alloc (.cells Lib.zeros24 271)) (hpF [.row 271 1 (0:Int) u8C zer24 0]):=by
  refine ⟨fun i j r k k' hi hj _ _=> ?_,fun i b hi=> ?_,fun b o h=> ?_,hg.keep hk0⟩
  ·have key:∀i,(hpF [Blk.row 271 1 (0:Int) u8C zer24 0] i).isSome=true→i=0:=fun i h=>by
    obtain ⟨b,hb⟩:=Option.isSome_iff_exists.1 h
    have:=(List.getElem?_eq_some_iff.1 hb).1
    simp at this;exact this
   rw[key i hi,key j hj]
  ·have h0:i=0:=by
    have:=(List.getElem?_eq_some_iff.1 hi).1
    simp at this;exact this
   subst h0
   have:Blk.row 271 1 (0:Int) u8C zer24 0=b:=by simpa [hpF]using hi
   subst this
   refine .inr ⟨w.heap.size,24,Lib.zeros24,rfl,hW,by decide,rfl,by decide,fun e _=>rfl,fun v hv=> ?_,fun i e j x v h1 h2 h3=> ?_,fun o=>⟨fun h=>absurd (ho _ _ h) (by omega),fun h=>by omega⟩,Nat.zero_le _⟩
   ·have:v= .int .u8 0:=by
     have e:Lib.zeros24.toList=List.replicate 24 (.int .u8 0):=rfl
     rw[e]at hv;exact List.eq_of_mem_replicate hv
    rw[this];rfl
   ·have he:e=0:=by
     have:=List.mem_of_getElem? h1
     exact List.eq_of_mem_replicate this
    subst he
    match j with
    |0=>
     cases h2
     have hi:i<24:=by have:=(List.getElem?_eq_some_iff.1 h1).1;simpa [zer24]using this
     rw[Nat.mul_one,Nat.add_zero,Lib.zeros24_at i hi]at h3
     cases h3
     exact .sc _ rfl
    |j+1=>simp[u8C]at h2
  ·rw[hk0.same b o h];exact ho2 b o h
 have hargs:VRs (fun i=>if i=0 then some (w.heap.size,24)else none) F (w.alloc (.cells Lib.zeros24 271)) [.sl 0 1 1 nd,uG (u:Int)] #[.slice (some ⟨w.heap.size,1,none⟩) nd 23,.int .u64 u]:=by
  refine ⟨rfl,fun j g v h1 h2=> ?_⟩
  match j with
  |0=>
   cases h1
   have h2:some (Value.slice (some ⟨w.heap.size,1,none⟩) nd 23)=some v:=by simpa using h2
   cases h2
   exact .sl 0 1 1 nd _ 23 (fun _=>⟨w.heap.size,24,rfl,rfl,by omega,rfl⟩) (fun _ h=>by omega) (by omega)
  |1=>
   cases h1
   have h2:some (Value.int .u64 (u:Int))=some v:=by simpa using h2
   cases h2
   exact .d (.sc _ rfl)
  |j+2=>simp at h1
 refine ((fmt10_ok nd hn (u:Int) ⟨by omega,by omega⟩ zer24 rfl).2 _ F _ _ hrel (fun i hi=> ?_) hargs).mono fun e w' ⟨ν',F',v,h1,h2,h3,h4,h5,h6⟩=> ?_
 ·have:i≠0:=by have:1≤i:=hi;omega
  simp[this]
 ·subst h1
  have hv:v= .tuple #[]:=by
   cases h2 with
   |tup _ us e1 _=>
    have:us= #[]:=by
     obtain ⟨l⟩:=us
     have:l.length=0:=e1
     rw[List.eq_nil_of_length_eq_zero this]
    rw[this]
  subst hv
  have hbl:Below (w.alloc (.cells Lib.zeros24 271)).heap.size (w.alloc (.cells Lib.zeros24 271)) (w.alloc (.cells Lib.zeros24 271)):=Below.refl _ _
  have hsz:(w.alloc (.cells Lib.zeros24 271)).heap.size=w.heap.size+1:=World.size_alloc _ _
  refine ⟨rfl,⟨by rw[h6.os];exact hb0.os,by rw[h6.tape];exact hb0.tape,by rw[h6.output];exact hb0.output,by have:=h6.size;have:=hb0.size;omega,fun r hr=> ?_⟩,fun i c hc=> ?_⟩
  ·rw[h6.frame r (by omega) fun ⟨i,k,hi,e⟩=> ?_,hb0.block r hr]
   by_cases h:i=0
   ·subst h
    have e:some (w.heap.size,24)=some (r,k):=e
    cases e
    omega
   ·have e:(if i=0 then some (w.heap.size,24)else none)=some (r,k):=e
    rw[if_neg h]at e;cases e
  ·have hb:=h3.blk 0 (.row 271 1 (0:Int) u8C (fm8 nd u zer24) 0) rfl
   rw[h4 0 (by decide)]at hb
   rcases hb with ⟨e,_⟩|⟨r,k,arr,e,k1,k2,k3,k4,k5,k6,k7,k8,k9⟩
   ·cases e
   ·cases e
    have hlt:i<arr.size:=by have:=(List.getElem?_eq_some_iff.1 hc).1;omega
    have hd:=k7 i c 0 (.sc (.int .u8 c)) arr[i] hc rfl (by rw[Nat.mul_one,Nat.add_zero];exact Array.getElem?_eq_getElem hlt)
    have ha:arr[i]= .int .u8 c:=by
     generalize arr[i]=z at hd⊢
     cases hd;rfl
    rw[World.cell?,k1]
    simp[hlt,ha]
set_option maxRecDepth 100000 in
set_option maxHeartbeats 4000000 in
theorem fmtInt_calls (w:World) (F:Fz) (hg:Glob F w) (ho:∀b o,F b o→b<w.heap.size) (ho2:∀b o,F b o→(w.cell? ⟨b,o,none⟩).isSome=true) (hT:Lib.TabIs Tryz.prog w "internal/strconv.uint64pow10" .u64 PowTab.v) (u:Nat) (h1:100≤u) (h2:u≤1099511627776):
 Calls Tryz.prog 224 #[.int .i64 u,.int .i64 10] w fun e w'=>e= .returned (.string ⟨(itB u).toArray⟩)∧Below w.heap.size w w':=by
 have hu64:u<18446744073709551616:=by omega
 have hnd:ndU u≤20:=by
  have h19:=(Lib.numDigits_eq u (by omega) hu64).2
  unfold ndU
  split<;>omega
 have h20:nd20 u=ndU u:=Nat.min_eq_right hnd
 have hfmt:=fmt10_calls w (ndU u) hnd u hu64 F hg ho ho2
 have hnumd:=numD_calls (w.alloc (.cells Lib.zeros24 271)) (Lib.tabIs_alloc hT _) u (by omega) hu64
 have hitb:itB u=(((fm8 (ndU u) u zer24).drop 1).take (ndU u)).map fun c=>UInt8.ofNat c.toNat:=by rw[itB,h20]
 have hlb:(itB u).length=ndU u:=by rw[itB_len,h20]
 have hby:Byt (fm8 (ndU u) u zer24):=Byt.f8 _ fun c hc=>by rw[List.eq_of_mem_replicate hc];omega
 have hl8:(fm8 (ndU u) u zer24).length=24:=len8 _ _ _
 generalize ndU u=nd at*
 have HF:=Lib.hid hfmt
 have HN:=Lib.hid hnumd
 have HI:=Lib.hid hitb
 have HB:=Lib.hid hby
 have HL:=Lib.hid hlb
 clear hfmt hnumd hT hitb hby hlb h20 hg ho ho2
 have hal:Tryz.prog.arrayLen 271=24:=by simp[Program.arrayLen,Tryz.underlying271]
 have hsl1:∀W,(Instr.sliceAt 271 (.pointer (some ⟨w.heap.size,0,none⟩)) (some (.int .i64 1)) (some (.int .i64 (1+(nd:Int)))) none).run Tryz.prog W= .ok (.slice (some ⟨w.heap.size,1,none⟩) nd 23) W:=fun W=>by
  rw[run_sliceAt_array_lh W 271 ⟨w.heap.size,0,none⟩ (by simp[Program.arrayLen,Program.elem,Tryz.underlying271]) .i64 .i64 1 (1+(nd:Int)) (by omega) (by omega) (by rw[hal];omega)]
  go_simp
  omega
 clear hal
 go_enter Tryz.func224,Tryz.ntmps224
 go_wp2_with (go_at_call 226;refine HN.out.mono ?_;rintro e w' ⟨rfl,rfl⟩)
 refine HF.out.mono ?_
 rintro e w' ⟨rfl,hb,hc⟩
 have hcv:(convert 203 9 (.slice (some ⟨w.heap.size,1,none⟩) nd 23)).run Tryz.prog w'= .ok (.string ⟨(itB u).toArray⟩) w':=by
  have h:=run_convert_bytes_back (P:=Tryz.prog) w' 203 9 5 ⟨w.heap.size,1,none⟩ 23 (itB u) Tryz.underlying203 Tryz.underlying5 Tryz.underlying9 (fun j hj=>by
   have hj2:1+j<(fm8 nd u zer24).length:=by have:=HL.out;omega
   have e1:(itB u)[j]=UInt8.ofNat ((fm8 nd u zer24)[1+j]).toNat:=by
    simp only[HI.out,List.getElem_map,List.getElem_take,List.getElem_drop]
   have hr:=HB.out _ (List.getElem_mem hj2)
   rw[e1,Lib.add_plain,hc (1+j) ((fm8 nd u zer24)[1+j]) (List.getElem?_eq_getElem hj2),UInt8.toNat_ofNat']
   congr 2
   omega)
  rw[HL.out]at h
  exact h
 clear hc
 go_wp2
 go_ret
 exact ⟨rfl,hb⟩
theorem gc_of_vrs2 [Laid] {P:Program} {f:FuncId} {fn:Func} {c:Code} {args:List G} {g:G} (hf:P.funcs[f]? =some fn) (hb:fn.body=some c) (hname:(fn.name== "runtime.NumGoroutine")=false) (ha:G.ltL 0 args=true)
 (h:∀(F:Fz) (w:World) (us:Array Value),Glob F w→(∀b o,F b o→b<w.heap.size)→(∀b o,F b o→(w.cell? ⟨b,o,none⟩).isSome=true)→VRs (fun _=>none) F w args us→Calls P f us w fun e w'=>∃(v:Value),e= .returned v∧Below w.heap.size w w'∧VR (fun _=>none) (fun _ _=>False) w' g v):GC P f args g:=by
 refine ⟨⟨fn,c,hf,hb,hname⟩,fun ν F w H us hr hv=> ?_⟩
 simp only[ltL_all,List.all_eq_true]at ha
 refine (h F w us hr.glob (fun b o hbo=>hr.old_lt hbo) hr.old ⟨hv.1,fun j g' u a b=>(hv.2 j g' u a b).closed (ha g' (List.mem_of_getElem? a))⟩).mono fun e w' ⟨v,h1,h2,h4⟩=> ?_
 obtain ⟨r1,r2⟩:=of_below hr h2
 have hkn:Keep (fun _ _=>False) w' F w':=⟨fun _ _ h=>h.elim,fun _ _ h=>h.elim,fun _ _ h=>h.elim⟩
 exact ⟨F,v,h1,h4.keep hkn (fun i p hi=>by cases hi),r1,r2⟩
theorem fmtInt_ok (n:Int) (h0:0≤n) (h1:n≤1099511627776):GC Tryz.prog 224 [iG n,iG 10] (sG (itU n)):=by
 refine gc_of_vrs2 Tryz.func224 rfl rfl rfl fun F w us hg hF ho hv=> ?_
 have h2:us.size=2:=hv.1
 obtain ⟨u,v,rfl⟩:=arr2 h2
 have e1:=(hv.2 0 (iG n) u rfl rfl).sc_eq.1
 have e2:=(hv.2 1 (iG 10) v rfl rfl).sc_eq.1
 subst e1
 subst e2
 by_cases hs:n<100
 ·obtain ⟨i,rfl⟩:∃i:Nat,n=i:=⟨n.toNat,by omega⟩
  have e:itU (i:Int)=⟨(Lib.itoa i).toArray⟩:=if_pos ⟨by omega,hs⟩
  rw[e]
  exact (Tryz.internal_strconv_FormatInt_10_small i (by omega) w).mono fun e w' ⟨h1,h2⟩=>⟨_,by rw[h1];rfl,h2▸Below.refl _ _,.d (.sc _ rfl)⟩
 ·obtain ⟨i,rfl⟩:∃i:Nat,n=i:=⟨n.toNat,by omega⟩
  have e:itU (i:Int)=⟨(itB i).toArray⟩:=if_neg (by omega)
  rw[e]
  have hT:Lib.TabIs Tryz.prog w "internal/strconv.uint64pow10" .u64 PowTab.v:=tabIs_of_glob hg List.mem_cons_self (by kernel_rfl)
  exact (fmtInt_calls w F hg hF ho hT i (by omega) (by omega)).mono fun e w' ⟨h1,h2⟩=>⟨_,h1,h2,.d (.sc _ rfl)⟩
theorem iitoa_ok (n:Int) (h0:0≤n) (h1:n≤1099511627776):GC Tryz.prog 223 [iG n] (sG (itU n)):=by
 refine gc_of_gk Tryz.func223 ?_
 refine gk_region env false [] [0,2] ?_
 refine gk_region env false [.call (fmtInt_ok n h0 h1)] [2] ?_
 refine gk_ret env ?_
 rfl
theorem sitoa_ok (n:Int) (h0:0≤n) (h1:n≤1099511627776):GC Tryz.prog 222 [iG n] (sG (itU n)):=by
 refine gc_of_gk Tryz.func222 ?_
 refine gk_region env false [] [0,2] ?_
 refine gk_region env false [.call (iitoa_ok n h0 h1)] [2] ?_
 refine gk_ret env ?_
 rfl
instance itoaU_any:ItoaU:=⟨itU,itU_size,sitoa_ok⟩
end Go.Gh
namespace Go.Gh
open Go Go.Proofs
set_option maxRecDepth 1000000
set_option maxHeartbeats 2000000
set_option linter.unusedSimpArgs false
set_option linter.unusedVariables false
set_option linter.unnecessarySimpa false
open Go.Proofs.YtffffkfcbjobnaaGreat
open Go.ChangeShapes Go.WideShapes Go.ChangeAt Go.RowKit Go.Deep
theorem own:ownKnob Tryz.prog.godebug=none:=by kernel_rfl
theorem laidOut:laidOutB Tryz.prog=true:=by kernel_rfl
theorem scV {ν:Nu} {F:Fz} {w:World} (v:Value) (h:v.oneCell'=true):VR ν F w (.d (.sc v)) v:= .d (.sc v h)
section
variable {H:Type} {enc:TypeId×Value→H} {P:Program} {w:World} {base:Nat} {spare:Nat→Bool} {held:Bool}
theorem list_of {α:Type} {p:Nat→α→Prop} :∀n:Nat,(∀i,i<n→∃r,p i r)→∃rs:List α,rs.length=n∧∀i r,rs[i]? =some r→p i r:=by
 intro n
 induction n with
 |zero=>exact fun _=>⟨[],rfl,fun i r h=>by simp at h⟩
 |succ n ih=>
  intro h
  obtain ⟨rs,hl,hp⟩:=ih fun i hi=>h i (by omega)
  obtain ⟨r,hr⟩:=h n (by omega)
  refine ⟨rs++ [r],by simp[hl],fun i q hq=> ?_⟩
  rcases Nat.lt_trichotomy i n with hi|hi|hi
  ·rw[List.getElem?_append_left (by omega)]at hq
   exact hp i q hq
  ·subst hi
   rw[List.getElem?_append_right (by omega),hl]at hq
   simp at hq
   subst hq;exact hr
  ·rw[List.getElem?_eq_none (by simp;omega)]at hq
   cases hq
theorem open_dr {α:Type} {df:α} {cs:α→List D} {Q:α→Prop} {t e k fuel:Nat} {v:Value} {x:DataW H×List MemPlace} (ht:P.underlying t=some (.slice e)) (hC:P.cellsOf e=k) (hk:0<k)
 (one:∀(l:List Value) (n:Nat) (y:DataW H×List MemPlace),l.length=k→DataW.trod enc P w base spare held n e l=some y→∃z:α,(cs z).length=k∧Q z∧∀(j:Nat) g u,(cs z)[j]? =some g→l[j]? =some u→DR (allF w) w g u)
 (h:DataW.trod enc P w base spare held fuel t [v]=some x):∃xs:List α,DR (allF w) w (.row df cs xs) v∧xs.length≤9223372036854775807∧∀x,x∈xs→Q x:=by
 rcases open_slice ht h with ⟨h0,_⟩|⟨a,len,cap,m,n,Dd,Pl,hcs,_,hl,hm,hmm,_,hi⟩
 ·simp at h0
  subst h0
  exact ⟨[],.row df cs [] none 0 0 0 0 (fun _ _=>undef) (fun h=>absurd rfl h) (Nat.zero_le _) (fun e he=>(by cases he)) (fun i e j x a=>(by simp at a)) (fun i e j x a=>(by simp at a)) (fun i e j x a=>(by simp at a)),by simp,fun x h=>by cases h⟩
 ·simp at hcs
  subst hcs
  rcases Nat.eq_zero_or_pos len with hz|hz
  ·subst hz
   exact ⟨[],.row df cs [] (some a) cap 0 0 0 (fun _ _=>undef) (fun h=>absurd rfl h) (Nat.zero_le _) (fun e he=>(by cases he)) (fun i e j x a=>(by simp at a)) (fun i e j x a=>(by simp at a)) (fun i e j x a=>(by simp at a)),by simp,fun x h=>by cases h⟩
  ·obtain ⟨b,off,spot⟩:=a
   have hel:∀i,i<len→∃(l:List Value) (y:DataW H×List MemPlace),l.length=k∧(∀j,j<k→w.cell? ((({block:=b,off:=off,spot:=spot} :Addr).add (i*k)).add j)=l[j]?)∧DataW.trod enc P w base spare held n e l=some y:=fun i hil=>by
    have him:i<m:=by rw[hmm];split<;>omega
    obtain ⟨cs',hc,ht'⟩:=hi i him
    rw[hC]at hc
    obtain ⟨_,hcl,hat⟩:=World.cells?_some hc
    exact ⟨cs',_,hcl,fun j hj=>hat j hj,ht'⟩
   have hspot:spot=none:=by
    obtain ⟨l,y,h1,h2,_⟩:=hel 0 hz
    have h3:=h2 0 hk
    rw[List.getElem?_eq_getElem (by omega)]at h3
    simpa [Addr.add]using World.cell?_spot h3
   subst hspot
   have hadd:∀i j,w.cell? ((({block:=b,off:=off,spot:=none} :Addr).add (i*k)).add j)=w.cell? ⟨b,off+i*k+j,none⟩:=fun i j=>by
    rw[addr_add,addr_add]
   obtain ⟨xs,hxl,hxs⟩:=list_of (p:=fun i (z:α)=>(cs z).length=k∧Q z∧∀(j:Nat) g,(cs z)[j]? =some g→∃u,w.cell? ⟨b,off+i*k+j,none⟩=some u∧DR (allF w) w g u) len fun i hi=>by
    obtain ⟨l,y,h1,h2,h3⟩:=hel i hi
    obtain ⟨z,z1,zq,z2⟩:=one l n y h1 h3
    refine ⟨z,z1,zq,fun j g hg=> ?_⟩
    have hj:j<k:=by rw[←z1];exact (List.getElem?_eq_some_iff.1 hg).1
    have h4:=h2 j hj
    rw[hadd,List.getElem?_eq_getElem (by omega)]at h4
    exact ⟨_,h4,z2 j g _ hg (List.getElem?_eq_getElem (by omega))⟩
   refine ⟨xs,?_,by have:=hl;have h9:=hm;unfold maxLen at h9;omega,fun x hx=> ?_⟩
   case refine_2=>obtain ⟨i,hi⟩:=List.getElem?_of_mem hx;exact (hxs i x hi).2.1
   rw[←hxl]
   refine .row df cs xs (some ⟨b,off,none⟩) cap b off k (fun i j=>(w.cell? ⟨b,off+i*k+j,none⟩).getD undef) (fun _=>rfl) (by omega) (fun e he=> ?_) (fun i e j x a1 a2=> ?_) (fun i e j x a1 a2=> ?_) (fun i e j x a1 a2=> ?_)
   ·obtain ⟨i,hi⟩:=List.getElem?_of_mem he;exact (hxs i e hi).1
   ·obtain ⟨u,h1,h2⟩:=(hxs i e a1).2.2 j x a2;rw[h1];rfl
   ·obtain ⟨u,h1,h2⟩:=(hxs i e a1).2.2 j x a2
    show (w.cell? _).isSome=true
    rw[h1];rfl
   ·obtain ⟨u,h1,h2⟩:=(hxs i e a1).2.2 j x a2;rw[h1];exact h2
theorem open_flds {t:TypeId} {fs:Array Field} {fuel:Nat} {l:List Value} {x:DataW H×List MemPlace} (hs:P.underlying t=some (.struct fs)) (hone:oneCellFields P fs=true) (hC:P.cellsOf t=fs.size)
 (h:DataW.trod enc P w base spare held fuel t l=some x):l.length=fs.size∧∀(j:Nat) (g:Field),fs[j]? =some g→∃(u:Value) (y:DataW H×List MemPlace) (n:Nat),l[j]? =some u∧DataW.trod enc P w base spare held n g.type [u]=some y:=by
 obtain ⟨ys,n',_,_,hll,hyl,hg⟩:=DataW.trod_struct hs h
 rw[hC]at hll
 refine ⟨hll,fun j g hj=> ?_⟩
 obtain ⟨ho,hk⟩:=hone_of hone j g hj
 have hjl:j<fs.size:=(Array.getElem?_eq_some_iff.1 hj).1
 have h1:=hg j g hj
 rw[ho,hk]at h1
 have hone':(l.drop j).take 1= [l[j]'(by omega)]:=by
  rw[List.drop_eq_getElem_cons (by omega)]
  rfl
 rw[hone']at h1
 have hys:ys[j]? =some (ys[j]'(by omega)):=List.getElem?_eq_getElem (by omega)
 exact ⟨_,_,n',List.getElem?_eq_getElem (by omega),h1.trans hys⟩
end
section
variable {H:Type} {enc:TypeId×Value→H} {w:World} {base:Nat} {spare:Nat→Bool} {held:Bool}
theorem okWide_agg {P:Program} {r:Reach} {b0:Nat} {t:TypeId} {fs:Array Field} {v:Value} (ht:P.underlying t=some (.struct fs)) (h:Value.okWide P w r b0 t v):∃cs,v= .agg cs∧cs.size=P.cellsOf t:=by
 simp only[Value.okWide,ht]at h
 obtain ⟨cs,h1,h2,_⟩:=h
 exact ⟨cs,h1,h2⟩
theorem in64_wf {n:Int} (h:(Lit.int .i64 n).wf=true):In64 n:=by
 simp[Lit.wf,IntKind.min,IntKind.max,IntKind.signed,IntKind.bits]at h
 exact ⟨by omega,by omega⟩
theorem open_strs {n:Nat} {v:Value} {x:DataW H×List MemPlace} (h:DataW.trod enc Tryz.prog w base spare held n 22 [v]=some x):∃xs,DR (allF w) w (.row default strC xs) v∧xs.length≤9223372036854775807∧∀x,x∈xs→(fun s=>s.size≤9223372036854775807) x:=
 open_dr (cs:=strC) (Q:=fun s=>s.size≤9223372036854775807) (k:=1) Tryz.underlying22 (by kernel_rfl) (by decide) (fun l n y hl ht=>by
  obtain ⟨v0,y0,n0,e0,t0⟩:∃v0 y0,∃n0:Nat,l[0]? =some v0∧DataW.trod enc Tryz.prog w base spare held n0 9 [v0]=some y0:=by
   match l,hl with
   | [v0],_=>exact ⟨v0,y,n,rfl,ht⟩
  obtain ⟨a0,g0,_,z0⟩:=DataW.trod_string Tryz.underlying9 t0
  simp at g0;subst g0
  unfold maxLen at z0
  refine ⟨a0,rfl,z0,fun j g u hg hu=> ?_⟩
  match j,hg,hu with
  |0,hg,hu=>rw[e0]at hu;cases hu;cases hg;exact .sc _ rfl
  |j+1,hg,hu=>simp[strC]at hg) h
theorem open_ints {n:Nat} {v:Value} {x:DataW H×List MemPlace} (h:DataW.trod enc Tryz.prog w base spare held n 40 [v]=some x):∃xs,DR (allF w) w (.row default inC xs) v∧xs.length≤9223372036854775807∧∀x,x∈xs→(fun _=>True) x:=
 open_dr (cs:=inC) (Q:=fun _=>True) (k:=1) Tryz.underlying40 (by kernel_rfl) (by decide) (fun l n y hl ht=>by
  obtain ⟨v0,y0,n0,e0,t0⟩:∃v0 y0,∃n0:Nat,l[0]? =some v0∧DataW.trod enc Tryz.prog w base spare held n0 3 [v0]=some y0:=by
   match l,hl with
   | [v0],_=>exact ⟨v0,y,n,rfl,ht⟩
  obtain ⟨a0,g0,_,w0⟩:=DataW.trod_int Tryz.underlying3 t0
  simp at g0;subst g0
  refine ⟨a0,rfl,trivial,fun j g u hg hu=> ?_⟩
  match j,hg,hu with
  |0,hg,hu=>rw[e0]at hu;cases hu;cases hg;exact .sc _ rfl
  |j+1,hg,hu=>simp[inC]at hg) h
theorem open_words {n:Nat} {v:Value} {x:DataW H×List MemPlace} (h:DataW.trod enc Tryz.prog w base spare held n 149 [v]=some x):∃xs,DR (allF w) w (.row default wdC xs) v∧xs.length≤9223372036854775807∧∀x,x∈xs→(fun _=>True) x:=
 open_dr (cs:=wdC) (Q:=fun _=>True) (k:=1) Tryz.underlying149 (by kernel_rfl) (by decide) (fun l n y hl ht=>by
  obtain ⟨_,hf⟩:=open_flds Tryz.underlying148 (by kernel_rfl) (by kernel_rfl) ht
  obtain ⟨v0,y0,n0,e0,t0⟩:=hf 0 _ rfl
  obtain ⟨a0,x0,l0,q0⟩:=open_strs t0
  refine ⟨a0,rfl,trivial,fun j g u hg hu=> ?_⟩
  match j,hg,hu with
  |0,hg,hu=>rw[e0]at hu;cases hu;cases hg;exact x0
  |j+1,hg,hu=>simp[wdC]at hg) h
theorem open_fields {n:Nat} {v:Value} {x:DataW H×List MemPlace} (h:DataW.trod enc Tryz.prog w base spare held n 114 [v]=some x):∃xs,DR (allF w) w (.row default flC xs) v∧xs.length≤9223372036854775807∧∀x,x∈xs→(fun _=>True) x:=
 open_dr (cs:=flC) (Q:=fun _=>True) (k:=2) Tryz.underlying114 (by kernel_rfl) (by decide) (fun l n y hl ht=>by
  obtain ⟨_,hf⟩:=open_flds Tryz.underlying151 (by kernel_rfl) (by kernel_rfl) ht
  obtain ⟨v0,y0,n0,e0,t0⟩:=hf 0 _ rfl
  obtain ⟨v1,y1,n1,e1,t1⟩:=hf 1 _ rfl
  obtain ⟨a0,g0,_,z0⟩:=DataW.trod_string Tryz.underlying9 t0
  simp at g0;subst g0
  unfold maxLen at z0
  obtain ⟨a1,x1,l1,q1⟩:=open_words t1
  refine ⟨⟨a0,a1⟩,rfl,trivial,fun j g u hg hu=> ?_⟩
  match j,hg,hu with
  |0,hg,hu=>rw[e0]at hu;cases hu;cases hg;exact .sc _ rfl
  |1,hg,hu=>rw[e1]at hu;cases hu;cases hg;exact x1
  |j+2,hg,hu=>simp[flC]at hg) h
theorem open_docs {n:Nat} {v:Value} {x:DataW H×List MemPlace} (h:DataW.trod enc Tryz.prog w base spare held n 55 [v]=some x):∃xs,DR (allF w) w (.row default dcC xs) v∧xs.length≤9223372036854775807∧∀x,x∈xs→(fun _=>True) x:=
 open_dr (cs:=dcC) (Q:=fun _=>True) (k:=2) Tryz.underlying55 (by kernel_rfl) (by decide) (fun l n y hl ht=>by
  obtain ⟨_,hf⟩:=open_flds Tryz.underlying116 (by kernel_rfl) (by kernel_rfl) ht
  obtain ⟨v0,y0,n0,e0,t0⟩:=hf 0 _ rfl
  obtain ⟨v1,y1,n1,e1,t1⟩:=hf 1 _ rfl
  obtain ⟨a0,g0,_,z0⟩:=DataW.trod_string Tryz.underlying9 t0
  simp at g0;subst g0
  unfold maxLen at z0
  obtain ⟨a1,x1,l1,q1⟩:=open_fields t1
  refine ⟨⟨a0,a1⟩,rfl,trivial,fun j g u hg hu=> ?_⟩
  match j,hg,hu with
  |0,hg,hu=>rw[e0]at hu;cases hu;cases hg;exact .sc _ rfl
  |1,hg,hu=>rw[e1]at hu;cases hu;cases hg;exact x1
  |j+2,hg,hu=>simp[dcC]at hg) h
theorem open_dms {n:Nat} {v:Value} {x:DataW H×List MemPlace} (h:DataW.trod enc Tryz.prog w base spare held n 32 [v]=some x):∃xs,DR (allF w) w (.row default dmC xs) v∧xs.length≤9223372036854775807∧∀x,x∈xs→(fun _=>True) x:=
 open_dr (cs:=dmC) (Q:=fun _=>True) (k:=8) Tryz.underlying32 (by kernel_rfl) (by decide) (fun l n y hl ht=>by
  obtain ⟨_,hf⟩:=open_flds Tryz.underlying37 (by kernel_rfl) (by kernel_rfl) ht
  obtain ⟨v0,y0,n0,e0,t0⟩:=hf 0 _ rfl
  obtain ⟨v1,y1,n1,e1,t1⟩:=hf 1 _ rfl
  obtain ⟨v2,y2,n2,e2,t2⟩:=hf 2 _ rfl
  obtain ⟨v3,y3,n3,e3,t3⟩:=hf 3 _ rfl
  obtain ⟨v4,y4,n4,e4,t4⟩:=hf 4 _ rfl
  obtain ⟨v5,y5,n5,e5,t5⟩:=hf 5 _ rfl
  obtain ⟨v6,y6,n6,e6,t6⟩:=hf 6 _ rfl
  obtain ⟨v7,y7,n7,e7,t7⟩:=hf 7 _ rfl
  obtain ⟨a0,g0,_,w0⟩:=DataW.trod_int Tryz.underlying3 t0
  simp at g0;subst g0
  obtain ⟨a1,g1,_,z1⟩:=DataW.trod_string Tryz.underlying9 t1
  simp at g1;subst g1
  unfold maxLen at z1
  obtain ⟨a2,g2,_,z2⟩:=DataW.trod_string Tryz.underlying9 t2
  simp at g2;subst g2
  unfold maxLen at z2
  obtain ⟨a3,g3,_,z3⟩:=DataW.trod_string Tryz.underlying9 t3
  simp at g3;subst g3
  unfold maxLen at z3
  obtain ⟨a4,g4,_,z4⟩:=DataW.trod_string Tryz.underlying9 t4
  simp at g4;subst g4
  unfold maxLen at z4
  obtain ⟨a5,g5,_,z5⟩:=DataW.trod_string Tryz.underlying9 t5
  simp at g5;subst g5
  unfold maxLen at z5
  obtain ⟨a6,g6,_,w6⟩:=DataW.trod_int Tryz.underlying3 t6
  simp at g6;subst g6
  obtain ⟨a7,g7,_,w7⟩:=DataW.trod_int Tryz.underlying3 t7
  simp at g7;subst g7
  refine ⟨⟨a0,a1,a2,a3,a4,a5,a6,a7⟩,rfl,trivial,fun j g u hg hu=> ?_⟩
  match j,hg,hu with
  |0,hg,hu=>rw[e0]at hu;cases hu;cases hg;exact .sc _ rfl
  |1,hg,hu=>rw[e1]at hu;cases hu;cases hg;exact .sc _ rfl
  |2,hg,hu=>rw[e2]at hu;cases hu;cases hg;exact .sc _ rfl
  |3,hg,hu=>rw[e3]at hu;cases hu;cases hg;exact .sc _ rfl
  |4,hg,hu=>rw[e4]at hu;cases hu;cases hg;exact .sc _ rfl
  |5,hg,hu=>rw[e5]at hu;cases hu;cases hg;exact .sc _ rfl
  |6,hg,hu=>rw[e6]at hu;cases hu;cases hg;exact .sc _ rfl
  |7,hg,hu=>rw[e7]at hu;cases hu;cases hg;exact .sc _ rfl
  |j+8,hg,hu=>simp[dmC]at hg) h
theorem open_turns {n:Nat} {v:Value} {x:DataW H×List MemPlace} (h:DataW.trod enc Tryz.prog w base spare held n 35 [v]=some x):∃xs,DR (allF w) w (.row default trnC xs) v∧xs.length≤9223372036854775807∧∀x,x∈xs→(fun t=>t.terms.length≤9223372036854775807∧t.docs.length≤9223372036854775807) x:=
 open_dr (cs:=trnC) (Q:=fun t=>t.terms.length≤9223372036854775807∧t.docs.length≤9223372036854775807) (k:=8) Tryz.underlying35 (by kernel_rfl) (by decide) (fun l n y hl ht=>by
  obtain ⟨_,hf⟩:=open_flds Tryz.underlying57 (by kernel_rfl) (by kernel_rfl) ht
  obtain ⟨v0,y0,n0,e0,t0⟩:=hf 0 _ rfl
  obtain ⟨v1,y1,n1,e1,t1⟩:=hf 1 _ rfl
  obtain ⟨v2,y2,n2,e2,t2⟩:=hf 2 _ rfl
  obtain ⟨v3,y3,n3,e3,t3⟩:=hf 3 _ rfl
  obtain ⟨v4,y4,n4,e4,t4⟩:=hf 4 _ rfl
  obtain ⟨v5,y5,n5,e5,t5⟩:=hf 5 _ rfl
  obtain ⟨v6,y6,n6,e6,t6⟩:=hf 6 _ rfl
  obtain ⟨v7,y7,n7,e7,t7⟩:=hf 7 _ rfl
  obtain ⟨a0,g0,_,w0⟩:=DataW.trod_int Tryz.underlying3 t0
  simp at g0;subst g0
  obtain ⟨a1,g1,_,w1⟩:=DataW.trod_int Tryz.underlying3 t1
  simp at g1;subst g1
  obtain ⟨a2,g2,_,w2⟩:=DataW.trod_int Tryz.underlying3 t2
  simp at g2;subst g2
  obtain ⟨a3,g3,_,w3⟩:=DataW.trod_int Tryz.underlying3 t3
  simp at g3;subst g3
  obtain ⟨a4,g4,_,w4⟩:=DataW.trod_int Tryz.underlying3 t4
  simp at g4;subst g4
  obtain ⟨a5,g5,_,w5⟩:=DataW.trod_int Tryz.underlying3 t5
  simp at g5;subst g5
  obtain ⟨a6,x6,l6,q6⟩:=open_dms t6
  obtain ⟨a7,x7,l7,q7⟩:=open_docs t7
  refine ⟨⟨a0,a1,a2,a3,a4,a5,a6,a7⟩,rfl,⟨l6,l7⟩,fun j g u hg hu=> ?_⟩
  match j,hg,hu with
  |0,hg,hu=>rw[e0]at hu;cases hu;cases hg;exact .sc _ rfl
  |1,hg,hu=>rw[e1]at hu;cases hu;cases hg;exact .sc _ rfl
  |2,hg,hu=>rw[e2]at hu;cases hu;cases hg;exact .sc _ rfl
  |3,hg,hu=>rw[e3]at hu;cases hu;cases hg;exact .sc _ rfl
  |4,hg,hu=>rw[e4]at hu;cases hu;cases hg;exact .sc _ rfl
  |5,hg,hu=>rw[e5]at hu;cases hu;cases hg;exact .sc _ rfl
  |6,hg,hu=>rw[e6]at hu;cases hu;cases hg;exact x6
  |7,hg,hu=>rw[e7]at hu;cases hu;cases hg;exact x7
  |j+8,hg,hu=>simp[trnC]at hg) h
theorem open_groups {n:Nat} {v:Value} {x:DataW H×List MemPlace} (h:DataW.trod enc Tryz.prog w base spare held n 24 [v]=some x):∃xs,DR (allF w) w (.row default inC xs) v∧xs.length≤9223372036854775807∧∀x,x∈xs→(fun _=>True) x:=
 open_dr (cs:=inC) (Q:=fun _=>True) (k:=1) Tryz.underlying24 (by kernel_rfl) (by decide) (fun l n y hl ht=>by
  obtain ⟨_,hf⟩:=open_flds Tryz.underlying105 (by kernel_rfl) (by kernel_rfl) ht
  obtain ⟨v0,y0,n0,e0,t0⟩:=hf 0 _ rfl
  obtain ⟨a0,g0,_,w0⟩:=DataW.trod_int Tryz.underlying3 t0
  simp at g0;subst g0
  refine ⟨a0,rfl,trivial,fun j g u hg hu=> ?_⟩
  match j,hg,hu with
  |0,hg,hu=>rw[e0]at hu;cases hu;cases hg;exact .sc _ rfl
  |j+1,hg,hu=>simp[inC]at hg) h
theorem open_cities {n:Nat} {v:Value} {x:DataW H×List MemPlace} (h:DataW.trod enc Tryz.prog w base spare held n 23 [v]=some x):∃xs,DR (allF w) w (.row default ctC xs) v∧xs.length≤9223372036854775807∧∀x,x∈xs→(FitC) x:=
 open_dr (cs:=ctC) (Q:=FitC) (k:=6) Tryz.underlying23 (by kernel_rfl) (by decide) (fun l n y hl ht=>by
  obtain ⟨_,hf⟩:=open_flds Tryz.underlying103 (by kernel_rfl) (by kernel_rfl) ht
  obtain ⟨v0,y0,n0,e0,t0⟩:=hf 0 _ rfl
  obtain ⟨v1,y1,n1,e1,t1⟩:=hf 1 _ rfl
  obtain ⟨v2,y2,n2,e2,t2⟩:=hf 2 _ rfl
  obtain ⟨v3,y3,n3,e3,t3⟩:=hf 3 _ rfl
  obtain ⟨v4,y4,n4,e4,t4⟩:=hf 4 _ rfl
  obtain ⟨v5,y5,n5,e5,t5⟩:=hf 5 _ rfl
  obtain ⟨a0,g0,_,z0⟩:=DataW.trod_string Tryz.underlying9 t0
  simp at g0;subst g0
  unfold maxLen at z0
  obtain ⟨a1,g1,_,w1⟩:=DataW.trod_int Tryz.underlying3 t1
  simp at g1;subst g1
  obtain ⟨a2,g2,_,w2⟩:=DataW.trod_int Tryz.underlying3 t2
  simp at g2;subst g2
  obtain ⟨a3,x3,l3,q3⟩:=open_ints t3
  obtain ⟨a4,x4,l4,q4⟩:=open_ints t4
  obtain ⟨a5,x5,l5,q5⟩:=open_ints t5
  refine ⟨⟨a0,a1,a2,a3,a4,a5⟩,rfl,⟨z0,l3,l4,l5⟩,fun j g u hg hu=> ?_⟩
  match j,hg,hu with
  |0,hg,hu=>rw[e0]at hu;cases hu;cases hg;exact .sc _ rfl
  |1,hg,hu=>rw[e1]at hu;cases hu;cases hg;exact .sc _ rfl
  |2,hg,hu=>rw[e2]at hu;cases hu;cases hg;exact .sc _ rfl
  |3,hg,hu=>rw[e3]at hu;cases hu;cases hg;exact x3
  |4,hg,hu=>rw[e4]at hu;cases hu;cases hg;exact x4
  |5,hg,hu=>rw[e5]at hu;cases hu;cases hg;exact x5
  |j+6,hg,hu=>simp[ctC]at hg) h
theorem open_firms {n:Nat} {v:Value} {x:DataW H×List MemPlace} (h:DataW.trod enc Tryz.prog w base spare held n 25 [v]=some x):∃xs,DR (allF w) w (.row default fmC xs) v∧xs.length≤9223372036854775807∧∀x,x∈xs→(fun c=>c.name.size≤9223372036854775807) x:=
 open_dr (cs:=fmC) (Q:=fun c=>c.name.size≤9223372036854775807) (k:=3) Tryz.underlying25 (by kernel_rfl) (by decide) (fun l n y hl ht=>by
  obtain ⟨_,hf⟩:=open_flds Tryz.underlying107 (by kernel_rfl) (by kernel_rfl) ht
  obtain ⟨v0,y0,n0,e0,t0⟩:=hf 0 _ rfl
  obtain ⟨v1,y1,n1,e1,t1⟩:=hf 1 _ rfl
  obtain ⟨v2,y2,n2,e2,t2⟩:=hf 2 _ rfl
  obtain ⟨a0,g0,_,z0⟩:=DataW.trod_string Tryz.underlying9 t0
  simp at g0;subst g0
  unfold maxLen at z0
  obtain ⟨a1,g1,_,w1⟩:=DataW.trod_int Tryz.underlying3 t1
  simp at g1;subst g1
  obtain ⟨a2,g2,_,w2⟩:=DataW.trod_int Tryz.underlying3 t2
  simp at g2;subst g2
  refine ⟨⟨a0,a1,a2⟩,rfl,z0,fun j g u hg hu=> ?_⟩
  match j,hg,hu with
  |0,hg,hu=>rw[e0]at hu;cases hu;cases hg;exact .sc _ rfl
  |1,hg,hu=>rw[e1]at hu;cases hu;cases hg;exact .sc _ rfl
  |2,hg,hu=>rw[e2]at hu;cases hu;cases hg;exact .sc _ rfl
  |j+3,hg,hu=>simp[fmC]at hg) h
theorem open_uss {n:Nat} {v:Value} {x:DataW H×List MemPlace} (h:DataW.trod enc Tryz.prog w base spare held n 27 [v]=some x):∃xs,DR (allF w) w (.row default usC xs) v∧xs.length≤9223372036854775807∧∀x,x∈xs→(fun _=>True) x:=
 open_dr (cs:=usC) (Q:=fun _=>True) (k:=3) Tryz.underlying27 (by kernel_rfl) (by decide) (fun l n y hl ht=>by
  obtain ⟨_,hf⟩:=open_flds Tryz.underlying168 (by kernel_rfl) (by kernel_rfl) ht
  obtain ⟨v0,y0,n0,e0,t0⟩:=hf 0 _ rfl
  obtain ⟨v1,y1,n1,e1,t1⟩:=hf 1 _ rfl
  obtain ⟨v2,y2,n2,e2,t2⟩:=hf 2 _ rfl
  obtain ⟨a0,g0,_,w0⟩:=DataW.trod_int Tryz.underlying3 t0
  simp at g0;subst g0
  obtain ⟨a1,g1,_,w1⟩:=DataW.trod_int Tryz.underlying3 t1
  simp at g1;subst g1
  obtain ⟨a2,g2,_,w2⟩:=DataW.trod_int Tryz.underlying3 t2
  simp at g2;subst g2
  refine ⟨⟨a0,a1,a2⟩,rfl,trivial,fun j g u hg hu=> ?_⟩
  match j,hg,hu with
  |0,hg,hu=>rw[e0]at hu;cases hu;cases hg;exact .sc _ rfl
  |1,hg,hu=>rw[e1]at hu;cases hu;cases hg;exact .sc _ rfl
  |2,hg,hu=>rw[e2]at hu;cases hu;cases hg;exact .sc _ rfl
  |j+3,hg,hu=>simp[usC]at hg) h
theorem open_rates {n:Nat} {v:Value} {x:DataW H×List MemPlace} (h:DataW.trod enc Tryz.prog w base spare held n 28 [v]=some x):∃xs,DR (allF w) w (.row default rtC xs) v∧xs.length≤9223372036854775807∧∀x,x∈xs→(fun x=>In64 x.num∧In64 x.den) x:=
 open_dr (cs:=rtC) (Q:=fun x=>In64 x.num∧In64 x.den) (k:=5) Tryz.underlying28 (by kernel_rfl) (by decide) (fun l n y hl ht=>by
  obtain ⟨_,hf⟩:=open_flds Tryz.underlying170 (by kernel_rfl) (by kernel_rfl) ht
  obtain ⟨v0,y0,n0,e0,t0⟩:=hf 0 _ rfl
  obtain ⟨v1,y1,n1,e1,t1⟩:=hf 1 _ rfl
  obtain ⟨v2,y2,n2,e2,t2⟩:=hf 2 _ rfl
  obtain ⟨v3,y3,n3,e3,t3⟩:=hf 3 _ rfl
  obtain ⟨v4,y4,n4,e4,t4⟩:=hf 4 _ rfl
  obtain ⟨a0,g0,_,w0⟩:=DataW.trod_int Tryz.underlying3 t0
  simp at g0;subst g0
  obtain ⟨a1,g1,_,w1⟩:=DataW.trod_int Tryz.underlying3 t1
  simp at g1;subst g1
  obtain ⟨a2,g2,_,w2⟩:=DataW.trod_int Tryz.underlying3 t2
  simp at g2;subst g2
  obtain ⟨a3,g3,_,w3⟩:=DataW.trod_int Tryz.underlying3 t3
  simp at g3;subst g3
  obtain ⟨a4,g4,_,w4⟩:=DataW.trod_int Tryz.underlying3 t4
  simp at g4;subst g4
  refine ⟨⟨a0,a1,a2,a3,a4⟩,rfl,⟨in64_wf w2,in64_wf w3⟩,fun j g u hg hu=> ?_⟩
  match j,hg,hu with
  |0,hg,hu=>rw[e0]at hu;cases hu;cases hg;exact .sc _ rfl
  |1,hg,hu=>rw[e1]at hu;cases hu;cases hg;exact .sc _ rfl
  |2,hg,hu=>rw[e2]at hu;cases hu;cases hg;exact .sc _ rfl
  |3,hg,hu=>rw[e3]at hu;cases hu;cases hg;exact .sc _ rfl
  |4,hg,hu=>rw[e4]at hu;cases hu;cases hg;exact .sc _ rfl
  |j+5,hg,hu=>simp[rtC]at hg) h
theorem open_halts {n:Nat} {v:Value} {x:DataW H×List MemPlace} (h:DataW.trod enc Tryz.prog w base spare held n 29 [v]=some x):∃xs,DR (allF w) w (.row default htC xs) v∧xs.length≤9223372036854775807∧∀x,x∈xs→(fun _=>True) x:=
 open_dr (cs:=htC) (Q:=fun _=>True) (k:=3) Tryz.underlying29 (by kernel_rfl) (by decide) (fun l n y hl ht=>by
  obtain ⟨_,hf⟩:=open_flds Tryz.underlying172 (by kernel_rfl) (by kernel_rfl) ht
  obtain ⟨v0,y0,n0,e0,t0⟩:=hf 0 _ rfl
  obtain ⟨v1,y1,n1,e1,t1⟩:=hf 1 _ rfl
  obtain ⟨v2,y2,n2,e2,t2⟩:=hf 2 _ rfl
  obtain ⟨a0,g0,_,w0⟩:=DataW.trod_int Tryz.underlying3 t0
  simp at g0;subst g0
  obtain ⟨a1,g1,_,w1⟩:=DataW.trod_int Tryz.underlying3 t1
  simp at g1;subst g1
  obtain ⟨a2,g2,_,w2⟩:=DataW.trod_int Tryz.underlying3 t2
  simp at g2;subst g2
  refine ⟨⟨a0,a1,a2⟩,rfl,trivial,fun j g u hg hu=> ?_⟩
  match j,hg,hu with
  |0,hg,hu=>rw[e0]at hu;cases hu;cases hg;exact .sc _ rfl
  |1,hg,hu=>rw[e1]at hu;cases hu;cases hg;exact .sc _ rfl
  |2,hg,hu=>rw[e2]at hu;cases hu;cases hg;exact .sc _ rfl
  |j+3,hg,hu=>simp[htC]at hg) h
theorem open_chos {n:Nat} {v:Value} {x:DataW H×List MemPlace} (h:DataW.trod enc Tryz.prog w base spare held n 108 [v]=some x):∃xs,DR (allF w) w (.row default choC xs) v∧xs.length≤9223372036854775807∧∀x,x∈xs→(fun _=>True) x:=
 open_dr (cs:=choC) (Q:=fun _=>True) (k:=3) Tryz.underlying108 (by kernel_rfl) (by decide) (fun l n y hl ht=>by
  obtain ⟨_,hf⟩:=open_flds Tryz.underlying161 (by kernel_rfl) (by kernel_rfl) ht
  obtain ⟨v0,y0,n0,e0,t0⟩:=hf 0 _ rfl
  obtain ⟨v1,y1,n1,e1,t1⟩:=hf 1 _ rfl
  obtain ⟨v2,y2,n2,e2,t2⟩:=hf 2 _ rfl
  obtain ⟨a0,g0,_,w0⟩:=DataW.trod_int Tryz.underlying3 t0
  simp at g0;subst g0
  obtain ⟨a1,g1,_,w1⟩:=DataW.trod_int Tryz.underlying3 t1
  simp at g1;subst g1
  obtain ⟨a2,g2,_⟩:=DataW.trod_bool Tryz.underlying4 t2
  simp at g2;subst g2
  refine ⟨⟨a0,a1,a2⟩,rfl,trivial,fun j g u hg hu=> ?_⟩
  match j,hg,hu with
  |0,hg,hu=>rw[e0]at hu;cases hu;cases hg;exact .sc _ rfl
  |1,hg,hu=>rw[e1]at hu;cases hu;cases hg;exact .sc _ rfl
  |2,hg,hu=>rw[e2]at hu;cases hu;cases hg;exact .sc _ rfl
  |j+3,hg,hu=>simp[choC]at hg) h
theorem open_rules {n:Nat} {v:Value} {x:DataW H×List MemPlace} (h:DataW.trod enc Tryz.prog w base spare held n 109 [v]=some x):∃xs,DR (allF w) w (.row default rulC xs) v∧xs.length≤9223372036854775807∧∀x,x∈xs→(fun _:Rul=>True) x:=
 open_dr (cs:=rulC) (Q:=fun _=>True) (k:=4) Tryz.underlying109 (by kernel_rfl) (by decide) (fun l n y hl ht=>by
  obtain ⟨ys,n',_,_,hll,hyl,hg⟩:=DataW.trod_struct Tryz.underlying166 ht
  match l,hl with
  | [v0,v1,v2,v3],_=>
    have g0:=hg 0 _ rfl
    have g1:=hg 1 _ rfl
    have e0:DataW.trod enc Tryz.prog w base spare held n' 3 [v0]=_:=g0
    have e1:DataW.trod enc Tryz.prog w base spare held n' 164 [v1,v2,v3]=_:=g1
    match ys,hyl with
    | [y0,y1],_=>
      obtain ⟨a0,f0,_,_⟩:=DataW.trod_int Tryz.underlying3 e0
      simp at f0;subst f0
      obtain ⟨_,hf⟩:=open_flds Tryz.underlying164 (by kernel_rfl) (by kernel_rfl) e1
      obtain ⟨u1,z1,n1,i1,t1⟩:=hf 0 _ rfl
      obtain ⟨u2,z2,n2,i2,t2⟩:=hf 1 _ rfl
      obtain ⟨u3,z3,n3,i3,t3⟩:=hf 2 _ rfl
      simp at i1 i2 i3
      subst i1;subst i2;subst i3
      obtain ⟨a1,f1,_,_⟩:=DataW.trod_int Tryz.underlying3 t1
      obtain ⟨a2,f2,_,_⟩:=DataW.trod_int Tryz.underlying3 t2
      simp at f1 f2
      subst f1;subst f2
      have ho:v3.oneCell'=true:=by
       rcases open_slice Tryz.underlying162 t3 with ⟨h0,_⟩|⟨a,len,cap,m,n,Dd,Pl,hcs,_⟩
       ·simp at h0;subst h0;rfl
       ·simp at hcs;subst hcs;rfl
      refine ⟨⟨a0,a1,a2,v3⟩,rfl,trivial,fun j g u hg hu=> ?_⟩
      match j,hg,hu with
      |0,hg,hu=>cases hu;cases hg;exact .sc _ rfl
      |1,hg,hu=>cases hu;cases hg;exact .sc _ rfl
      |2,hg,hu=>cases hu;cases hg;exact .sc _ rfl
      |3,hg,hu=>cases hu;cases hg;exact .sc _ ho
      |j+4,hg,hu=>simp at hu) h
theorem open_ords {n:Nat} {v:Value} {x:DataW H×List MemPlace} (h:DataW.trod enc Tryz.prog w base spare held n 26 [v]=some x):∃xs,DR (allF w) w (.row default odC xs) v∧xs.length≤9223372036854775807∧∀x,x∈xs→(fun o=>o.name.size≤9223372036854775807∧o.choices.length≤9223372036854775807∧o.rules.length≤9223372036854775807) x:=
 open_dr (cs:=odC) (Q:=fun o=>o.name.size≤9223372036854775807∧o.choices.length≤9223372036854775807∧o.rules.length≤9223372036854775807) (k:=4) Tryz.underlying26 (by kernel_rfl) (by decide) (fun l n y hl ht=>by
  obtain ⟨_,hf⟩:=open_flds Tryz.underlying111 (by kernel_rfl) (by kernel_rfl) ht
  obtain ⟨v0,y0,n0,e0,t0⟩:=hf 0 _ rfl
  obtain ⟨v1,y1,n1,e1,t1⟩:=hf 1 _ rfl
  obtain ⟨v2,y2,n2,e2,t2⟩:=hf 2 _ rfl
  obtain ⟨v3,y3,n3,e3,t3⟩:=hf 3 _ rfl
  obtain ⟨a0,g0,_,z0⟩:=DataW.trod_string Tryz.underlying9 t0
  simp at g0;subst g0
  unfold maxLen at z0
  obtain ⟨a1,g1,_⟩:=DataW.trod_bool Tryz.underlying4 t1
  simp at g1;subst g1
  obtain ⟨a2,x2,l2,q2⟩:=open_chos t2
  obtain ⟨a3,x3,l3,q3⟩:=open_rules t3
  refine ⟨⟨a0,a1,a2,a3⟩,rfl,⟨z0,l2,l3⟩,fun j g u hg hu=> ?_⟩
  match j,hg,hu with
  |0,hg,hu=>rw[e0]at hu;cases hu;cases hg;exact .sc _ rfl
  |1,hg,hu=>rw[e1]at hu;cases hu;cases hg;exact .sc _ rfl
  |2,hg,hu=>rw[e2]at hu;cases hu;cases hg;exact x2
  |3,hg,hu=>rw[e3]at hu;cases hu;cases hg;exact x3
  |j+4,hg,hu=>simp[odC]at hg) h
theorem open_realm {r:Reach} {b0:Nat} {v:Value} {d:DataW H} {ps:List MemPlace} (hv:Value.okWide Tryz.prog w r b0 31 v) (h:DataW.Trod enc Tryz.prog w base spare held 31 v d ps):
 ∃x:Rlm,VR (fun _=>none) (allF w) w (rlG x) v∧MemR x:=by
 obtain ⟨cs,rfl,hsz⟩:=okWide_agg Tryz.underlying31 hv
 obtain ⟨fuel,hf⟩:=h
 have hf':DataW.trod enc Tryz.prog w base spare held fuel 31 cs.toList=some (d,ps):=hf
 obtain ⟨hl,hc⟩:=open_flds Tryz.underlying31 (by kernel_rfl) (by kernel_rfl) hf'
 obtain ⟨v0,y0,n0,e0,t0⟩:=hc 0 _ rfl
 obtain ⟨v1,y1,n1,e1,t1⟩:=hc 1 _ rfl
 obtain ⟨v2,y2,n2,e2,t2⟩:=hc 2 _ rfl
 obtain ⟨v3,y3,n3,e3,t3⟩:=hc 3 _ rfl
 obtain ⟨v4,y4,n4,e4,t4⟩:=hc 4 _ rfl
 obtain ⟨v5,y5,n5,e5,t5⟩:=hc 5 _ rfl
 obtain ⟨v6,y6,n6,e6,t6⟩:=hc 6 _ rfl
 obtain ⟨v7,y7,n7,e7,t7⟩:=hc 7 _ rfl
 obtain ⟨a0,x0,l0,q0⟩:=open_strs t0
 obtain ⟨a1,x1,l1,q1⟩:=open_cities t1
 obtain ⟨a2,x2,l2,q2⟩:=open_groups t2
 obtain ⟨a3,x3,l3,q3⟩:=open_firms t3
 obtain ⟨a4,x4,l4,q4⟩:=open_ords t4
 obtain ⟨a5,x5,l5,q5⟩:=open_uss t5
 obtain ⟨a6,x6,l6,q6⟩:=open_rates t6
 obtain ⟨a7,x7,l7,q7⟩:=open_halts t7
 have hat:∀(j:Nat) u,cs[j]? =some u→(j=0∧u=v0)∨(j=1∧u=v1)∨(j=2∧u=v2)∨(j=3∧u=v3)∨(j=4∧u=v4)∨(j=5∧u=v5)∨(j=6∧u=v6)∨(j=7∧u=v7):=fun j u hu=>by
  have hu':cs.toList[j]? =some u:=by simpa using hu
  match j,hu' with
  |0,hu'=>rw[e0]at hu';cases hu';simp
  |1,hu'=>rw[e1]at hu';cases hu';simp
  |2,hu'=>rw[e2]at hu';cases hu';simp
  |3,hu'=>rw[e3]at hu';cases hu';simp
  |4,hu'=>rw[e4]at hu';cases hu';simp
  |5,hu'=>rw[e5]at hu';cases hu';simp
  |6,hu'=>rw[e6]at hu';cases hu';simp
  |7,hu'=>rw[e7]at hu';cases hu';simp
  |j+8,hu'=>have h2:=(List.getElem?_eq_some_iff.1 hu').1;rw[hl]at h2;exact absurd h2 (by show ¬j+8<8;omega)
 refine ⟨⟨a0,a1,a2,a3,a4,a5,a6,a7⟩,.agg _ cs (by show cs.size=8;rw[←Array.length_toList,hl];rfl) (fun u hu=> ?_) (fun j g u hg hu=> ?_),⟨⟨l0,q0⟩,⟨l1,q1⟩,l2,⟨l3,q3⟩,⟨l4,q4⟩,l5,⟨l6,q6⟩,l7⟩⟩
 ·obtain ⟨j,hj⟩:=List.getElem?_of_mem hu
  rcases hat j u (by simpa using hj)with ⟨rfl,rfl⟩|⟨rfl,rfl⟩|⟨rfl,rfl⟩|⟨rfl,rfl⟩|⟨rfl,rfl⟩|⟨rfl,rfl⟩|⟨rfl,rfl⟩|⟨rfl,rfl⟩
  ·exact x0.one
  ·exact x1.one
  ·exact x2.one
  ·exact x3.one
  ·exact x4.one
  ·exact x5.one
  ·exact x6.one
  ·exact x7.one
 ·rcases hat j u hu with ⟨rfl,rfl⟩|⟨rfl,rfl⟩|⟨rfl,rfl⟩|⟨rfl,rfl⟩|⟨rfl,rfl⟩|⟨rfl,rfl⟩|⟨rfl,rfl⟩|⟨rfl,rfl⟩
  ·cases hg;exact .d x0
  ·cases hg;exact .d x1
  ·cases hg;exact .d x2
  ·cases hg;exact .d x3
  ·cases hg;exact .d x4
  ·cases hg;exact .d x5
  ·cases hg;exact .d x6
  ·cases hg;exact .d x7
theorem open_credit {r:Reach} {b0:Nat} {v:Value} {d:DataW H} {ps:List MemPlace} (hv:Value.okWide Tryz.prog w r b0 34 v) (h:DataW.Trod enc Tryz.prog w base spare held 34 v d ps):
 ∃x:Crd,VR (fun _=>none) (allF w) w (crdG x) v∧x.terms.length≤9223372036854775807:=by
 obtain ⟨cs,rfl,hsz⟩:=okWide_agg Tryz.underlying34 hv
 obtain ⟨fuel,hf⟩:=h
 have hf':DataW.trod enc Tryz.prog w base spare held fuel 34 cs.toList=some (d,ps):=hf
 obtain ⟨hl,hc⟩:=open_flds Tryz.underlying34 (by kernel_rfl) (by kernel_rfl) hf'
 obtain ⟨v0,y0,n0,e0,t0⟩:=hc 0 _ rfl
 obtain ⟨v1,y1,n1,e1,t1⟩:=hc 1 _ rfl
 obtain ⟨v2,y2,n2,e2,t2⟩:=hc 2 _ rfl
 obtain ⟨v3,y3,n3,e3,t3⟩:=hc 3 _ rfl
 obtain ⟨v4,y4,n4,e4,t4⟩:=hc 4 _ rfl
 obtain ⟨v5,y5,n5,e5,t5⟩:=hc 5 _ rfl
 obtain ⟨v6,y6,n6,e6,t6⟩:=hc 6 _ rfl
 obtain ⟨v7,y7,n7,e7,t7⟩:=hc 7 _ rfl
 obtain ⟨v8,y8,n8,e8,t8⟩:=hc 8 _ rfl
 obtain ⟨v9,y9,n9,e9,t9⟩:=hc 9 _ rfl
 obtain ⟨v10,y10,n10,e10,t10⟩:=hc 10 _ rfl
 obtain ⟨v11,y11,n11,e11,t11⟩:=hc 11 _ rfl
 obtain ⟨a0,g0,_,w0⟩:=DataW.trod_int Tryz.underlying3 t0
 simp at g0;subst g0
 obtain ⟨a1,g1,_,w1⟩:=DataW.trod_int Tryz.underlying3 t1
 simp at g1;subst g1
 obtain ⟨a2,g2,_,w2⟩:=DataW.trod_int Tryz.underlying3 t2
 simp at g2;subst g2
 obtain ⟨a3,g3,_,w3⟩:=DataW.trod_int Tryz.underlying3 t3
 simp at g3;subst g3
 obtain ⟨a4,g4,_,w4⟩:=DataW.trod_int Tryz.underlying3 t4
 simp at g4;subst g4
 obtain ⟨a5,g5,_,w5⟩:=DataW.trod_int Tryz.underlying3 t5
 simp at g5;subst g5
 obtain ⟨a6,g6,_,w6⟩:=DataW.trod_int Tryz.underlying3 t6
 simp at g6;subst g6
 obtain ⟨a7,g7,_,w7⟩:=DataW.trod_int Tryz.underlying3 t7
 simp at g7;subst g7
 obtain ⟨a8,g8,_⟩:=DataW.trod_bool Tryz.underlying4 t8
 simp at g8;subst g8
 obtain ⟨a9,g9,_⟩:=DataW.trod_bool Tryz.underlying4 t9
 simp at g9;subst g9
 obtain ⟨a10,g10,_,w10⟩:=DataW.trod_int Tryz.underlying3 t10
 simp at g10;subst g10
 obtain ⟨a11,x11,l11,q11⟩:=open_dms t11
 have hat:∀(j:Nat) u,cs[j]? =some u→(j=0∧u= .int .i64 a0)∨(j=1∧u= .int .i64 a1)∨(j=2∧u= .int .i64 a2)∨(j=3∧u= .int .i64 a3)∨(j=4∧u= .int .i64 a4)∨(j=5∧u= .int .i64 a5)∨(j=6∧u= .int .i64 a6)∨(j=7∧u= .int .i64 a7)∨(j=8∧u= .bool a8)∨(j=9∧u= .bool a9)∨(j=10∧u= .int .i64 a10)∨(j=11∧u=v11):=fun j u hu=>by
  have hu':cs.toList[j]? =some u:=by simpa using hu
  match j,hu' with
  |0,hu'=>rw[e0]at hu';cases hu';simp
  |1,hu'=>rw[e1]at hu';cases hu';simp
  |2,hu'=>rw[e2]at hu';cases hu';simp
  |3,hu'=>rw[e3]at hu';cases hu';simp
  |4,hu'=>rw[e4]at hu';cases hu';simp
  |5,hu'=>rw[e5]at hu';cases hu';simp
  |6,hu'=>rw[e6]at hu';cases hu';simp
  |7,hu'=>rw[e7]at hu';cases hu';simp
  |8,hu'=>rw[e8]at hu';cases hu';simp
  |9,hu'=>rw[e9]at hu';cases hu';simp
  |10,hu'=>rw[e10]at hu';cases hu';simp
  |11,hu'=>rw[e11]at hu';cases hu';simp
  |j+12,hu'=>have h2:=(List.getElem?_eq_some_iff.1 hu').1;rw[hl]at h2;exact absurd h2 (by show ¬j+12<12;omega)
 refine ⟨⟨a0,a1,a2,a3,a4,a5,a6,a7,a8,a9,a10,a11⟩,.agg _ cs (by show cs.size=12;rw[←Array.length_toList,hl];rfl) (fun u hu=> ?_) (fun j g u hg hu=> ?_),l11⟩
 ·obtain ⟨j,hj⟩:=List.getElem?_of_mem hu
  rcases hat j u (by simpa using hj)with ⟨rfl,rfl⟩|⟨rfl,rfl⟩|⟨rfl,rfl⟩|⟨rfl,rfl⟩|⟨rfl,rfl⟩|⟨rfl,rfl⟩|⟨rfl,rfl⟩|⟨rfl,rfl⟩|⟨rfl,rfl⟩|⟨rfl,rfl⟩|⟨rfl,rfl⟩|⟨rfl,rfl⟩
  ·rfl
  ·rfl
  ·rfl
  ·rfl
  ·rfl
  ·rfl
  ·rfl
  ·rfl
  ·rfl
  ·rfl
  ·rfl
  ·exact x11.one
 ·rcases hat j u hu with ⟨rfl,rfl⟩|⟨rfl,rfl⟩|⟨rfl,rfl⟩|⟨rfl,rfl⟩|⟨rfl,rfl⟩|⟨rfl,rfl⟩|⟨rfl,rfl⟩|⟨rfl,rfl⟩|⟨rfl,rfl⟩|⟨rfl,rfl⟩|⟨rfl,rfl⟩|⟨rfl,rfl⟩
  ·cases hg;exact .d (.sc _ rfl)
  ·cases hg;exact .d (.sc _ rfl)
  ·cases hg;exact .d (.sc _ rfl)
  ·cases hg;exact .d (.sc _ rfl)
  ·cases hg;exact .d (.sc _ rfl)
  ·cases hg;exact .d (.sc _ rfl)
  ·cases hg;exact .d (.sc _ rfl)
  ·cases hg;exact .d (.sc _ rfl)
  ·cases hg;exact .d (.sc _ rfl)
  ·cases hg;exact .d (.sc _ rfl)
  ·cases hg;exact .d (.sc _ rfl)
  ·cases hg;exact .d x11
theorem open_demand {r:Reach} {b0:Nat} {v:Value} {d:DataW H} {ps:List MemPlace} (hv:Value.okWide Tryz.prog w r b0 37 v) (h:DataW.Trod enc Tryz.prog w base spare held 37 v d ps):
 ∃x:Dm,VR (fun _=>none) (allF w) w (dmG x) v∧x.text.size≤9223372036854775807:=by
 obtain ⟨cs,rfl,hsz⟩:=okWide_agg Tryz.underlying37 hv
 obtain ⟨fuel,hf⟩:=h
 have hf':DataW.trod enc Tryz.prog w base spare held fuel 37 cs.toList=some (d,ps):=hf
 obtain ⟨hl,hc⟩:=open_flds Tryz.underlying37 (by kernel_rfl) (by kernel_rfl) hf'
 obtain ⟨v0,y0,n0,e0,t0⟩:=hc 0 _ rfl
 obtain ⟨v1,y1,n1,e1,t1⟩:=hc 1 _ rfl
 obtain ⟨v2,y2,n2,e2,t2⟩:=hc 2 _ rfl
 obtain ⟨v3,y3,n3,e3,t3⟩:=hc 3 _ rfl
 obtain ⟨v4,y4,n4,e4,t4⟩:=hc 4 _ rfl
 obtain ⟨v5,y5,n5,e5,t5⟩:=hc 5 _ rfl
 obtain ⟨v6,y6,n6,e6,t6⟩:=hc 6 _ rfl
 obtain ⟨v7,y7,n7,e7,t7⟩:=hc 7 _ rfl
 obtain ⟨a0,g0,_,w0⟩:=DataW.trod_int Tryz.underlying3 t0
 simp at g0;subst g0
 obtain ⟨a1,g1,_,z1⟩:=DataW.trod_string Tryz.underlying9 t1
 simp at g1;subst g1
 unfold maxLen at z1
 obtain ⟨a2,g2,_,z2⟩:=DataW.trod_string Tryz.underlying9 t2
 simp at g2;subst g2
 unfold maxLen at z2
 obtain ⟨a3,g3,_,z3⟩:=DataW.trod_string Tryz.underlying9 t3
 simp at g3;subst g3
 unfold maxLen at z3
 obtain ⟨a4,g4,_,z4⟩:=DataW.trod_string Tryz.underlying9 t4
 simp at g4;subst g4
 unfold maxLen at z4
 obtain ⟨a5,g5,_,z5⟩:=DataW.trod_string Tryz.underlying9 t5
 simp at g5;subst g5
 unfold maxLen at z5
 obtain ⟨a6,g6,_,w6⟩:=DataW.trod_int Tryz.underlying3 t6
 simp at g6;subst g6
 obtain ⟨a7,g7,_,w7⟩:=DataW.trod_int Tryz.underlying3 t7
 simp at g7;subst g7
 have hat:∀(j:Nat) u,cs[j]? =some u→(j=0∧u= .int .i64 a0)∨(j=1∧u= .string a1)∨(j=2∧u= .string a2)∨(j=3∧u= .string a3)∨(j=4∧u= .string a4)∨(j=5∧u= .string a5)∨(j=6∧u= .int .i64 a6)∨(j=7∧u= .int .i64 a7):=fun j u hu=>by
  have hu':cs.toList[j]? =some u:=by simpa using hu
  match j,hu' with
  |0,hu'=>rw[e0]at hu';cases hu';simp
  |1,hu'=>rw[e1]at hu';cases hu';simp
  |2,hu'=>rw[e2]at hu';cases hu';simp
  |3,hu'=>rw[e3]at hu';cases hu';simp
  |4,hu'=>rw[e4]at hu';cases hu';simp
  |5,hu'=>rw[e5]at hu';cases hu';simp
  |6,hu'=>rw[e6]at hu';cases hu';simp
  |7,hu'=>rw[e7]at hu';cases hu';simp
  |j+8,hu'=>have h2:=(List.getElem?_eq_some_iff.1 hu').1;rw[hl]at h2;exact absurd h2 (by show ¬j+8<8;omega)
 refine ⟨⟨a0,a1,a2,a3,a4,a5,a6,a7⟩,.agg _ cs (by show cs.size=8;rw[←Array.length_toList,hl];rfl) (fun u hu=> ?_) (fun j g u hg hu=> ?_),z5⟩
 ·obtain ⟨j,hj⟩:=List.getElem?_of_mem hu
  rcases hat j u (by simpa using hj)with ⟨rfl,rfl⟩|⟨rfl,rfl⟩|⟨rfl,rfl⟩|⟨rfl,rfl⟩|⟨rfl,rfl⟩|⟨rfl,rfl⟩|⟨rfl,rfl⟩|⟨rfl,rfl⟩
  ·rfl
  ·rfl
  ·rfl
  ·rfl
  ·rfl
  ·rfl
  ·rfl
  ·rfl
 ·rcases hat j u hu with ⟨rfl,rfl⟩|⟨rfl,rfl⟩|⟨rfl,rfl⟩|⟨rfl,rfl⟩|⟨rfl,rfl⟩|⟨rfl,rfl⟩|⟨rfl,rfl⟩|⟨rfl,rfl⟩
  ·cases hg;exact .d (.sc _ rfl)
  ·cases hg;exact .d (.sc _ rfl)
  ·cases hg;exact .d (.sc _ rfl)
  ·cases hg;exact .d (.sc _ rfl)
  ·cases hg;exact .d (.sc _ rfl)
  ·cases hg;exact .d (.sc _ rfl)
  ·cases hg;exact .d (.sc _ rfl)
  ·cases hg;exact .d (.sc _ rfl)
theorem top_turns {r:Reach} {b0:Nat} {v:Value} {d:DataW H} {ps:List MemPlace} (hv:Value.okWide Tryz.prog w r b0 35 v) (h:DataW.Trod enc Tryz.prog w base spare held 35 v d ps):∃xs,DR (allF w) w (.row default trnC xs) v∧xs.length≤9223372036854775807∧∀t,t∈xs→t.terms.length≤9223372036854775807∧t.docs.length≤9223372036854775807:=by
 obtain ⟨fuel,hf⟩:=h
 obtain ⟨a,len,cap,rfl⟩:=Go.WideShapes.okWide_slice Tryz.underlying35 hv
 obtain ⟨xs,h1,h2,h3⟩:=open_turns (x:=(d,ps)) hf
 exact ⟨xs,h1,h2,h3⟩
end
theorem tab_of_shaped {W:World} (h:W.ShapedOpen Tryz.prog):∃pt:PowTab,@Glob (@powLaid pt) (allF W) W:=by
 obtain ⟨cs,hh,hs,hr⟩:=h.1 1 (Array.replicate 20 (.int .u64 0)) 276 (of_decide_eq_true (by kernel_rfl)) (by kernel_rfl)
 obtain ⟨ts,hts,_,hall⟩:=hr (by kernel_rfl)
 rw[show Tryz.prog.cellTypes Tryz.prog.depth 276=some (List.replicate 20 247)by kernel_rfl]at hts
 cases hts
 have hsz:cs.size=20:=by rw[hs];rfl
 have hk:∀(i:Nat) v,cs[i]? =some v→∃n:Int,v= .int .u64 n∧0≤n∧n≤18446744073709551615:=fun i v hv=>by
  obtain ⟨u,hu,hok⟩:=hall i v hv
  have hu:u=247:=by
   have:=List.mem_of_getElem? hu
   simp at this;exact this
  subst hu
  unfold Cell.ok at hok
  rw[Tryz.underlying247]at hok
  cases v<;>simp at hok
  case int k n=>
   obtain ⟨rfl,h1,h2⟩:=hok
   exact ⟨n,rfl,h1,h2⟩
 have hz:∃zs:List Int,zs.length=20∧(∀x,x∈zs→0≤x∧x≤18446744073709551615)∧cs=(zs.map fun z=>Value.int .u64 z).toArray:=by
  obtain ⟨zs,hl,hp⟩:=list_of (p:=fun i (n:Int)=>cs[i]? =some (.int .u64 n)∧0≤n∧n≤18446744073709551615) 20 fun i hi=>by
   obtain ⟨n,h1,h2⟩:=hk i cs[i] (Array.getElem?_eq_getElem (by omega))
   exact ⟨n,by rw[Array.getElem?_eq_getElem (by omega),h1],h2⟩
  refine ⟨zs,hl,fun x hx=> ?_,Array.ext_getElem? fun i=> ?_⟩
  ·obtain ⟨i,hi⟩:=List.getElem?_of_mem hx
   exact (hp i x hi).2
  ·by_cases hi:i<20
   ·rw[(hp i zs[i] (List.getElem?_eq_getElem (by omega))).1]
    simp[List.getElem?_eq_getElem (show i<zs.length by omega)]
   ·rw[Array.getElem?_eq_none (by omega),Array.getElem?_eq_none (by simp;omega)]
 obtain ⟨zs,hl,hp,rfl⟩:=hz
 have hg:Tryz.prog.globalNamed "internal/strconv.uint64pow10" =some 1:=by kernel_rfl
 have ht:Lib.TabIs Tryz.prog W "internal/strconv.uint64pow10" .u64 zs:=by
  unfold Lib.TabIs World.var?
  rw[hg]
  simp[hh]
 refine ⟨⟨zs,hl,hp⟩,fun q hq=> ?_⟩
 have hq:q=(1,tabD .u64 zs):=List.mem_singleton.1 hq
 subst hq
 exact glob_of_tabIs ht hg (by intro h0;rw[h0]at hl;cases hl)
end Go.Gh
