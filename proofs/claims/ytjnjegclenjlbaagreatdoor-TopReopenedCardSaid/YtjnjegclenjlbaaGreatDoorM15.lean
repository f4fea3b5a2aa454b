/- Walks by the logic of calls, and plain laws (several texts in one). -/
import Derived.Test.YtjnjegclenjlbaaGreatDoorM13
import Derived.Test.YtjnjegclenjlbaaGreatDoorGh4
import Derived.TacticsInMore
namespace Go.Gh
open Go Go.Proofs
set_option maxRecDepth 1000000
set_option maxHeartbeats 2000000
set_option linter.unusedSimpArgs false
set_option linter.unusedVariables false
set_option linter.unnecessarySimpa false
open Go.RowKit Go.Proofs
def LIT:ByteArray:=(⟨#[111,114,100,101,114,32,103,101,110,101,118,97,32,123,32,114,117,108,101,32,103,114,97,99,101,32,61,32,51,59,32,125]⟩:ByteArray)
def TS:List Tk:=(scF LIT 20 0 []).1
theorem ts_len:TS.length=9:=by kernel_rfl
def OPL:List (Int×ByteArray):=[(4,(⟨#[97,110,100]⟩:ByteArray)),(5,(⟨#[111,114]⟩:ByteArray)),(7,(⟨#[60]⟩:ByteArray)),(8,(⟨#[61]⟩:ByteArray)),(9,(⟨#[43]⟩:ByteArray)),(10,(⟨#[45]⟩:ByteArray)),(11,(⟨#[42]⟩:ByteArray)),(12,(⟨#[109,105,110]⟩:ByteArray)),(13,(⟨#[109,97,120]⟩:ByteArray))]
def encO (e:Int×ByteArray):Value×Value:=(.int .i64 e.1,.string e.2)
def ruC (x:Int×Int×Int):List D:=[.sc (.int .i64 x.1),.sc (.int .i64 x.2.1),.sc (.int .i64 x.2.2),.sc (.slice none 0 0)]
def odC (x:ByteArray):List D:=[.sc (.string x),.sc (.bool false),.sc (.slice none 0 0),.row default ruC [(6,0,3)]]
theorem lparse_ok:GC Tryz.prog 38 [sG LIT] (.tup [.d (.row default tkC TS),iG 0,iG 0]):=by
 have h:=scan_ok LIT (by decide) 20 (by decide) (by kernel_rfl)
 rw[show (scF LIT 20 0 []).2.1=0 by kernel_rfl,show (scF LIT 20 0 []).2.2=0 by kernel_rfl]at h
 exact h
theorem cut3_ok:GC Tryz.prog 198 [iG 3] (iG 3):=by
 refine gc_of_gk Tryz.func198 ?_
 refine gk_region env false [] [0,2] ?_
 refine gk_region env false [] [2] ?_
 refine gk_ret env ?_
 rfl
theorem leaf3_ok:GC Tryz.prog 188 [.agg [iG 0,iG 3,.d (.sc (.slice none 0 0))]] (.tup [iG 0,iG 0]):=by
 refine gc_of_gk Tryz.func188 ?_
 refine gk_region env false [] [1,2,3] ?_
 refine gk_region env false [] [1,2,3,9] ?_
 refine gk_ifd (fun c1=> ?_) (fun c1=> ?_)
 ·try simp only[toN]at c1
  exact absurd c1 (by decide)
 ·try simp only[toN]at c1
  refine gk_region env false [] [1,2,3,11] ?_
  refine gk_region env false [] [1,2,3,11,12] ?_
  refine gk_ifd (fun c2=> ?_) (fun c2=> ?_)
  ·try simp only[toN]at c2
   refine gk_region env false [.call cut3_ok] [1,2,3,19] ?_
   refine gk_ifn (fun c3=> ?_) (fun c3=> ?_)
   ·try simp only[toN]at c3
    exact absurd trivial c3
   ·try simp only[toN]at c3
    refine gk_region env false [] [1,2,3] ?_
    refine gk_ret env ?_
    rfl
  ·try simp only[toN]at c2
   exact absurd trivial c2
theorem meas3_ok:GC Tryz.prog 159 [.agg [iG 0,iG 3,.d (.sc (.slice none 0 0))],iG 1] (iG 1):=by
 refine gc_of_gk Tryz.func159 ?_
 refine gk_region env false [] [1,2,4] ?_
 refine gk_region env false [] [1,2,4,9] ?_
 refine gk_ifd (fun c1=> ?_) (fun c1=> ?_)
 ·try simp only[toN]at c1
  exact absurd c1 (by decide)
 ·try simp only[toN]at c1
  refine gk_region env false [] [1,2,4,5] ?_
  refine gk_region env false [] [1,4,5,11,12,13] ?_
  refine gk_loop (α:=Unit) (fun _=>True) (fun _=>[(13,iG 0)]) (fun _=>[]) (fun _=>0) () trivial ?_ (hp:=by (try simp only[AllP,Nat.zero_add]);repeat' first|exact trivial|exact rfl|exact EntL.refl _|exact BEntL.refl _|omega|apply And.intro|(simp;done)|(simp[*];done))
  rintro ⟨⟩-
  refine gk_region env false [] [1,4,5,11,12,13,14] ?_
  refine gk_ifd (fun c2=> ?_) (fun c2=> ?_)
  ·try simp only[toN]at c2
   exact absurd c2 (by decide)
  ·try simp only[toN]at c2
   refine gk_region env false [] [4] ?_
   refine gk_ret env ?_
   rfl
theorem tchk3_ok:GC Tryz.prog 160 [.agg [iG 0,iG 3,.d (.sc (.slice none 0 0))]] (.tup [iG 0,iG 0]):=by
 refine gc_of_gk Tryz.func160 ?_
 refine gk_region env false [] [1,2,3] ?_
 refine gk_region env false [.el (0:Int) inC []] [1,2,3,4] ?_ (hp:=(by simp only[AllP,bb,toN,loI,hiI];repeat' first|exact trivial|exact EntL.refl _|exact BEntL.refl _|exact rfl|omega|apply And.intro|intro _))
 refine gk_region env false [] [1,2,3,4,18,19,20] ?_
 refine gk_loop (α:=Unit) (fun _=>True) (fun _=>[(20,iG 0)]) (fun _=>[]) (fun _=>0) () trivial ?_ (hp:=by (try simp only[AllP,Nat.zero_add]);repeat' first|exact trivial|exact rfl|exact EntL.refl _|exact BEntL.refl _|omega|apply And.intro|(simp;done)|(simp[*];done))
 rintro ⟨⟩-
 refine gk_region env false [] [1,2,3,4,18,19,20,21] ?_
 refine gk_ifd (fun c1=> ?_) (fun c1=> ?_)
 ·try simp only[toN]at c1
  exact absurd c1 (by decide)
 ·try simp only[toN]at c1
  refine gk_region env false [] [1,2,3,4,38] ?_
  refine gk_if (fun c2=> ?_) (fun c2=> ?_)
  ·try simp only[bb,toN]at c2
   exact absurd c2 (by decide)
  ·try simp only[bb,toN]at c2
   refine gk_region env false [] [1,2,3,4,47] ?_
   refine gk_if (fun c3=> ?_) (fun c3=> ?_)
   ·try simp only[bb,toN]at c3
    refine gk_region env false [.call leaf3_ok] [1,2,3,4] ?_
    refine gk_ret env ?_
    rfl
   ·try simp only[bb,toN]at c3
    exact absurd c3 (by decide)
theorem tCheck3_ok:GC Tryz.prog 125 [.agg [iG 0,iG 3,.d (.sc (.slice none 0 0))]] (.tup [iG 0,iG 0]):=by
 refine gc_of_gk Tryz.func125 ?_
 refine gk_region env false [] [1,2,3] ?_
 refine gk_region env false [.call meas3_ok] [1,2,3,6] ?_
 refine gk_ifd (fun c1=> ?_) (fun c1=> ?_)
 ·try simp only[toN]at c1
  exact absurd c1 (by decide)
 ·try simp only[toN]at c1
  refine gk_region env false [.call tchk3_ok] [2,3] ?_
  refine gk_ret env ?_
  rfl
theorem ops_ok:GM Tryz.prog 158 [] [] (.mp 0) [some (.mp (OPL.map encO))]:=by
 refine gm_of_gk Tryz.func158 ?_
 refine gk_region env false [] [0] ?_
 refine gk_region env false [.mp ((OPL.take 1).map encO),.mp ((OPL.take 2).map encO),.mp ((OPL.take 3).map encO),.mp ((OPL.take 4).map encO),.mp ((OPL.take 5).map encO),.mp ((OPL.take 6).map encO),.mp ((OPL.take 7).map encO),.mp ((OPL.take 8).map encO),.mp ((OPL.take 9).map encO)] [0] ?_ (hp:=(by simp only[AllP,bb,toN,loI,hiI];repeat' first|exact trivial|exact EntL.refl _|exact BEntL.refl _|exact rfl|omega|apply And.intro|intro _))
 refine gk_retX env [.mp 0] (hp:= ?_)
 (try simp only[AllP,Nat.zero_add]);repeat' first|exact trivial|exact rfl|exact EntL.refl _|exact BEntL.refl _|omega|apply And.intro
theorem atom_ok (ts:List Tk) (a:Nat) (hl:ts.length≤1000) (ha:a≤999) (h1:isB ts a (⟨#[40]⟩:ByteArray)=false) (h2:isB ts a (⟨#[116,114,117,101]⟩:ByteArray)=false) (h3:isB ts a (⟨#[102,97,108,115,101]⟩:ByteArray)=false) (h4:isB ts a (⟨#[45]⟩:ByteArray)=false) (hk:a<ts.length) (hk1:(tkA ts a).kind=1):GM Tryz.prog 157 [.ptr 0 0 0 0] [rdB ts a] (.agg [iG 0,iG (tkA ts a).n,.d (.sc (.slice none 0 0))]) [some (rdB ts (a+1))]:=by
 refine gm_of_gk Tryz.func157 ?_
 refine gk_region env false [] [0,2] ?_
 refine gk_region env false [.callm [0] (take_no ts a hl (by omega) (⟨#[40]⟩:ByteArray) h1)] [0,2,7] ?_ (hp:=(by simp only[AllP,bb,toN,loI,hiI];repeat' first|exact trivial|exact EntL.refl _|exact BEntL.refl _|exact rfl|omega|apply And.intro|intro _))
 refine gk_if (fun c1=> ?_) (fun c1=> ?_)
 ·try simp only[bb,toN]at c1
  cases c1
 ·try simp only[bb,toN]at c1
  refine gk_region env false [.callm [0] (take_no ts a hl (by omega) (⟨#[116,114,117,101]⟩:ByteArray) h2)] [0,2,15] ?_ (hp:=(by simp only[AllP,bb,toN,loI,hiI];repeat' first|exact trivial|exact EntL.refl _|exact BEntL.refl _|exact rfl|omega|apply And.intro|intro _))
  refine gk_if (fun c2=> ?_) (fun c2=> ?_)
  ·try simp only[bb,toN]at c2
   cases c2
  ·try simp only[bb,toN]at c2
   refine gk_region env false [.callm [0] (take_no ts a hl (by omega) (⟨#[102,97,108,115,101]⟩:ByteArray) h3)] [0,2,19] ?_ (hp:=(by simp only[AllP,bb,toN,loI,hiI];repeat' first|exact trivial|exact EntL.refl _|exact BEntL.refl _|exact rfl|omega|apply And.intro|intro _))
   refine gk_if (fun c3=> ?_) (fun c3=> ?_)
   ·try simp only[bb,toN]at c3
    cases c3
   ·try simp only[bb,toN]at c3
    refine gk_region env false [.callm [0] (take_no ts a hl (by omega) (⟨#[45]⟩:ByteArray) h4)] [0,2,4] ?_ (hp:=(by simp only[AllP,bb,toN,loI,hiI];repeat' first|exact trivial|exact EntL.refl _|exact BEntL.refl _|exact rfl|omega|apply And.intro|intro _))
    refine gk_region env false [] [0,2,4,48] ?_ (hp:=(by simp only[AllP,bb,toN,loI,hiI];repeat' first|exact trivial|exact EntL.refl _|exact BEntL.refl _|exact rfl|omega|apply And.intro|intro _))
    refine gk_if (fun c4=> ?_) (fun c4=> ?_)
    ·try simp only[bb,toN]at c4
     refine gk_region env false [] [0,2,4,5] ?_ (hp:=(by simp only[AllP,bb,toN,loI,hiI];repeat' first|exact trivial|exact EntL.refl _|exact BEntL.refl _|exact rfl|omega|apply And.intro|intro _))
     refine gk_region env false [] [0,2,4,5,60] ?_
     refine gk_if (fun c5=> ?_) (fun c5=> ?_)
     ·try simp only[bb,toN]at c5
      cases c5
     ·try simp only[bb,toN]at c5
      refine gk_region env false [] [0,2,4,5] ?_ (hp:=(by simp only[AllP,bb,toN,loI,hiI];repeat' first|exact trivial|exact EntL.refl _|exact BEntL.refl _|exact rfl|omega|apply And.intro|intro _))
      refine gk_region env false [] [0,2,4] ?_
      refine gk_retX env [.agg [iG 0,iG (tkA ts a).n,.d (.sc (.slice none 0 0))]] (hp:= ?_)
      (try simp only[AllP,Nat.zero_add]);repeat' first|exact trivial|exact rfl|exact EntL.refl _|exact BEntL.refl _|omega|apply And.intro
    ·try simp only[bb,toN]at c4
     unfold tkA at hk1
     omega
theorem term_ok (ts:List Tk) (a:Nat) (hl:ts.length≤1000) (ha:a≤998) (h5:isB ts a (⟨#[110,111,116]⟩:ByteArray)=false) (h6:isB ts a (⟨#[105,102]⟩:ByteArray)=false) (h1:isB ts a (⟨#[40]⟩:ByteArray)=false) (h2:isB ts a (⟨#[116,114,117,101]⟩:ByteArray)=false) (h3:isB ts a (⟨#[102,97,108,115,101]⟩:ByteArray)=false) (h4:isB ts a (⟨#[45]⟩:ByteArray)=false) (hk:a<ts.length) (hk1:(tkA ts a).kind=1) (hno:∀x,x∈OPL→isB ts (a+1) x.2=false):GM Tryz.prog 124 [.ptr 0 0 0 0] [rdB ts a] (.agg [iG 0,iG (tkA ts a).n,.d (.sc (.slice none 0 0))]) [some (rdB ts (a+1))]:=by
 refine gm_of_gk Tryz.func124 ?_
 refine gk_region env false [] [0,2] ?_
 refine gk_region env false [.callm [0] (take_no ts a hl (by omega) (⟨#[110,111,116]⟩:ByteArray) h5)] [0,2,9] ?_ (hp:=(by simp only[AllP,bb,toN,loI,hiI];repeat' first|exact trivial|exact EntL.refl _|exact BEntL.refl _|exact rfl|omega|apply And.intro|intro _))
 refine gk_if (fun c1=> ?_) (fun c1=> ?_)
 ·cases c1
 refine gk_region env false [.callm [0] (take_no ts a hl (by omega) (⟨#[105,102]⟩:ByteArray) h6)] [0,2,15] ?_ (hp:=(by simp only[AllP,bb,toN,loI,hiI];repeat' first|exact trivial|exact EntL.refl _|exact BEntL.refl _|exact rfl|omega|apply And.intro|intro _))
 refine gk_if (fun c2=> ?_) (fun c2=> ?_)
 ·cases c2
 refine gk_region env false [.callm [0] (atom_ok ts a hl (by omega) h1 h2 h3 h4 hk hk1)] [0,2,5] ?_ (hp:=(by simp only[AllP,bb,toN,loI,hiI];repeat' first|exact trivial|exact EntL.refl _|exact BEntL.refl _|exact rfl|omega|apply And.intro|intro _))
 refine gk_maprange env false 1 [.callm [] ops_ok] 3 33 34 35 36 4 (OPL.map encO) (fun _ _=>True) (fun _=>[(0,.ptr 0 0 0 0),(2,.ptr 1 0 0 0),(5,.ptr 2 0 0 0)]) (fun _=>[(0,some (rdB ts (a+1))),(1,some (.box [iG 0,iG 0,.d (.sc (.slice none 0 0))])),(2,some (.box [iG 0,iG (tkA ts a).n,.d (.sc (.slice none 0 0))]))]) () trivial ?_ ?_ (by rfl)
 ·rintro r0 done kk v rest x hperm-
  obtain ⟨e,he,hek⟩:=List.mem_map.1 (hperm.mem_iff.1 (List.mem_append_right _ List.mem_cons_self))
  simp only[encO,Prod.mk.injEq]at hek
  obtain ⟨rfl,rfl⟩:=hek
  refine gko_region env false [] [0,2,5,6,7,33] ?_
  refine gk_region env false [.callm [0] (take_no ts (a+1) hl (by omega) e.2 (hno e he))] [0,2,5,33,41] ?_ (hp:=(by simp only[AllP,bb,toN,loI,hiI];repeat' first|exact trivial|exact EntL.refl _|exact BEntL.refl _|exact rfl|omega|apply And.intro|intro _))
  refine gk_if (fun c3=> ?_) (fun c3=> ?_)
  ·cases c3
  exact gk_mround () trivial
 ·rintro done x hperm-
  refine gk_region env false [] [0,2] ?_
  refine gk_retX env [.agg [iG 0,iG (tkA ts a).n,.d (.sc (.slice none 0 0))]] (hp:= ?_)
  (try simp only[AllP,Nat.zero_add]);repeat' first|exact trivial|exact rfl|exact EntL.refl _|exact BEntL.refl _|omega|apply And.intro
theorem idx0_ord:GC Tryz.prog 115 [.d (.sc (.slice none 0 0)),.junk] (iG (-1)):=by
 refine gc_of_gk Tryz.func115 ?_
 refine gk_region env false [] [0,1,4] ?_
 refine gk_region env false [] [0,1,4,7,8] ?_
 refine gk_loop (α:=Unit) (fun _=>True) (fun _=>[(8,iG 0)]) (fun _=>[]) (fun _=>0) () trivial ?_ (hp:=by (try simp only[AllP,Nat.zero_add]);repeat' first|exact trivial|exact rfl|exact EntL.refl _|exact BEntL.refl _|omega|apply And.intro|(simp;done)|(simp[*];done))
 rintro ⟨⟩-
 refine gk_region env false [] [0,1,4,7,8,9] ?_
 refine gk_ifd (fun c1=> ?_) (fun c1=> ?_)
 ·try simp only[toN]at c1
  exact absurd c1 (by decide)
 ·try simp only[toN]at c1
  refine gk_region env false [] [4] ?_
  refine gk_ret env ?_
  rfl
theorem has0_ord:GC Tryz.prog 72 [.d (.sc (.slice none 0 0)),.junk] (bG false):=by
 refine gc_of_gk Tryz.func72 ?_
 refine gk_region env false [] [0,1,4] ?_
 refine gk_region env false [.call idx0_ord] [4] ?_ (hp:=(by simp only[AllP,bb,toN,loI,hiI];repeat' first|exact trivial|exact EntL.refl _|exact ⟨Ent.refl _,Ent.junk _,trivial⟩|exact BEntL.refl _|exact rfl|omega|apply And.intro|intro _))
 refine gk_ret env ?_
 rfl
theorem idx0_rul:GC Tryz.prog 156 [.d (.sc (.slice none 0 0)),.junk] (iG (-1)):=by
 refine gc_of_gk Tryz.func156 ?_
 refine gk_region env false [] [0,1,4] ?_
 refine gk_region env false [] [0,1,4,7,8] ?_
 refine gk_loop (α:=Unit) (fun _=>True) (fun _=>[(8,iG 0)]) (fun _=>[]) (fun _=>0) () trivial ?_ (hp:=by (try simp only[AllP,Nat.zero_add]);repeat' first|exact trivial|exact rfl|exact EntL.refl _|exact BEntL.refl _|omega|apply And.intro|(simp;done)|(simp[*];done))
 rintro ⟨⟩-
 refine gk_region env false [] [0,1,4,7,8,9] ?_
 refine gk_ifd (fun c1=> ?_) (fun c1=> ?_)
 ·try simp only[toN]at c1
  exact absurd c1 (by decide)
 ·try simp only[toN]at c1
  refine gk_region env false [] [4] ?_
  refine gk_ret env ?_
  rfl
theorem has0_rul:GC Tryz.prog 122 [.d (.sc (.slice none 0 0)),.junk] (bG false):=by
 refine gc_of_gk Tryz.func122 ?_
 refine gk_region env false [] [0,1,4] ?_
 refine gk_region env false [.call idx0_rul] [4] ?_ (hp:=(by simp only[AllP,bb,toN,loI,hiI];repeat' first|exact trivial|exact EntL.refl _|exact ⟨Ent.refl _,Ent.junk _,trivial⟩|exact BEntL.refl _|exact rfl|omega|apply And.intro|intro _))
 refine gk_ret env ?_
 rfl
def LL:List (Int×Int×Int):=[(6,0,3)]
theorem len0_ok:GC Tryz.prog 51 [.d (.sc (.int .u64 0))] (iG (Lib.bitLen 0)):=gc_of_old Tryz.func51 rfl rfl rfl rfl fun w=>(Tryz.bits_Len 0 w (by decide) (by decide)).mono fun e w' ⟨h1,h2⟩=>⟨h1,h2▸Below.refl _ _⟩
theorem len1_ok:GC Tryz.prog 51 [.d (.sc (.int .u64 1))] (iG (Lib.bitLen 1)):=gc_of_old Tryz.func51 rfl rfl rfl rfl fun w=>(Tryz.bits_Len 1 w (by decide) (by decide)).mono fun e w' ⟨h1,h2⟩=>⟨h1,h2▸Below.refl _ _⟩
theorem ins_cho:GC Tryz.prog 161 [.d (.sc (.slice none 0 0)),iG 0,iG 0,.junk] (.tup []):=by
 refine gc_of_gk Tryz.func161 ?_
 refine gk_region env false [] [0,1,2,3,8] ?_
 refine gk_loop (α:=Unit) (fun _=>True) (fun _=>[(8,iG 1)]) (fun _=>[]) (fun _=>0) () trivial ?_ (hp:=by (try simp only[AllP,Nat.zero_add]);repeat' first|exact trivial|exact rfl|exact EntL.refl _|exact BEntL.refl _|omega|apply And.intro|(simp;done)|(simp[*];done))
 rintro ⟨⟩-
 refine gk_region env false [] [0,1,2,3,8,14] ?_
 refine gk_ifd (fun c1=> ?_) (fun c1=> ?_)
 ·try simp only[toN]at c1
  exact absurd c1 (by decide)
 ·try simp only[toN]at c1
  refine gk_end env ?_
  rfl
theorem pdq_cho:GC Tryz.prog 126 [.d (.sc (.slice none 0 0)),iG 0,iG 0,iG (Lib.bitLen 0),.junk] (.tup []):=by
 refine gc_of_gk Tryz.func126 ?_
 refine gk_region env false [] [0,1,2,3,4,10] ?_
 refine gk_region env false [] [0,1,2,3,4,10,11] ?_
 refine gk_loop (α:=Unit) (fun _=>True) (fun _=>[(1,iG 0),(2,iG 0),(10,bG true),(11,bG true)]) (fun _=>[]) (fun _=>0) () trivial ?_ (hp:=by (try simp only[AllP,Nat.zero_add]);repeat' first|exact trivial|exact rfl|exact EntL.refl _|exact BEntL.refl _|omega|apply And.intro|(simp;done)|(simp[*];done))
 rintro ⟨⟩-
 refine gk_region env false [] [0,1,2,3,4,10,11,12] ?_
 refine gk_region env false [] [0,1,2,3,4,10,11,12,25] ?_
 refine gk_ifd (fun c1=> ?_) (fun c1=> ?_)
 ·try simp only[toN]at c1
  refine gk_region env false [.call ins_cho] [0,1,2,3,4,10,11,12] ?_ (hp:=(by simp only[AllP,bb,toN,loI,hiI];repeat' first|exact trivial|exact EntL.refl _|exact ⟨Ent.refl _,Ent.junk _,trivial⟩|exact BEntL.refl _|exact rfl|omega|apply And.intro|intro _))
  refine gk_ret env ?_
  rfl
 ·try simp only[toN]at c1
  exact absurd (by decide) c1
theorem srt_cho:GC Tryz.prog 78 [.d (.sc (.slice none 0 0)),fG 79] (.tup []):=by
 refine gc_of_gk Tryz.func78 ?_
 refine gk_region env false [] [0,1,4] ?_
 refine gk_region env false [.call len0_ok,.call pdq_cho] [] ?_ (hp:=(by simp only[AllP,bb,toN,loI,hiI];repeat' first|exact trivial|exact EntL.refl _|exact ⟨Ent.refl _,Ent.refl _,Ent.refl _,Ent.refl _,Ent.junk _,trivial⟩|decide|exact BEntL.refl _|exact rfl|omega|apply And.intro|intro _))
 refine gk_end env ?_
 rfl
theorem ins_rul:GC Tryz.prog 169 [.d (.row default ruC LL),iG 0,iG 1,.junk] (.tup []):=by
 refine gc_of_gk Tryz.func169 ?_
 refine gk_region env false [] [0,1,2,3,8] ?_
 refine gk_loop (α:=Unit) (fun _=>True) (fun _=>[(8,iG 1)]) (fun _=>[]) (fun _=>0) () trivial ?_ (hp:=by (try simp only[AllP,Nat.zero_add]);repeat' first|exact trivial|exact rfl|exact EntL.refl _|exact BEntL.refl _|omega|apply And.intro|(simp;done)|(simp[*];done))
 rintro ⟨⟩-
 refine gk_region env false [] [0,1,2,3,8,14] ?_
 refine gk_ifd (fun c1=> ?_) (fun c1=> ?_)
 ·try simp only[toN]at c1
  exact absurd c1 (by decide)
 ·try simp only[toN]at c1
  refine gk_end env ?_
  rfl
theorem pdq_rul:GC Tryz.prog 127 [.d (.row default ruC LL),iG 0,iG 1,iG (Lib.bitLen 1),.junk] (.tup []):=by
 refine gc_of_gk Tryz.func127 ?_
 refine gk_region env false [] [0,1,2,3,4,10] ?_
 refine gk_region env false [] [0,1,2,3,4,10,11] ?_
 refine gk_loop (α:=Unit) (fun _=>True) (fun _=>[(1,iG 0),(2,iG 1),(10,bG true),(11,bG true)]) (fun _=>[]) (fun _=>0) () trivial ?_ (hp:=by (try simp only[AllP,Nat.zero_add]);repeat' first|exact trivial|exact rfl|exact EntL.refl _|exact BEntL.refl _|omega|apply And.intro|(simp;done)|(simp[*];done))
 rintro ⟨⟩-
 refine gk_region env false [] [0,1,2,3,4,10,11,12] ?_
 refine gk_region env false [] [0,1,2,3,4,10,11,12,25] ?_
 refine gk_ifd (fun c1=> ?_) (fun c1=> ?_)
 ·try simp only[toN]at c1
  refine gk_region env false [.call ins_rul] [0,1,2,3,4,10,11,12] ?_ (hp:=(by simp only[AllP,bb,toN,loI,hiI];repeat' first|exact trivial|exact EntL.refl _|exact ⟨Ent.refl _,Ent.junk _,trivial⟩|exact BEntL.refl _|exact rfl|omega|apply And.intro|intro _))
  refine gk_ret env ?_
  rfl
 ·try simp only[toN]at c1
  exact absurd (by decide) c1
theorem srt_rul:GC Tryz.prog 81 [.d (.row default ruC LL),fG 82] (.tup []):=by
 refine gc_of_gk Tryz.func81 ?_
 refine gk_region env false [] [0,1,4] ?_
 refine gk_region env false [.call len1_ok,.call pdq_rul] [] ?_ (hp:=(by simp only[AllP,bb,toN,loI,hiI];repeat' first|exact trivial|exact EntL.refl _|exact ⟨Ent.refl _,Ent.refl _,Ent.refl _,Ent.refl _,Ent.junk _,trivial⟩|decide|exact BEntL.refl _|exact rfl|omega|apply And.intro|intro _))
 refine gk_end env ?_
 rfl
theorem one4:GM Tryz.prog 117 [.ptr 0 0 0 0,.d (.row default strC (fldsT QS))] [rdB TS 4] (iG 6) [some (rdB TS 4)]:=by
 have hq:findI (fun y=>decide (y=(tkA TS 4).text)) (fldsT QS) 0=6:=by kernel_rfl
 have h:=one_ok TS 4 (by rw[ts_len];decide) (by decide) (by rw[ts_len];decide) (by kernel_rfl) (fldsT QS) (by rw[show (fldsT QS).length=22 by kernel_rfl];decide) (by rw[hq];decide)
 rw[hq]at h
 exact h
theorem term6:GM Tryz.prog 124 [.ptr 0 0 0 0] [rdB TS 6] (.agg [iG 0,iG 3,.d (.sc (.slice none 0 0))]) [some (rdB TS 7)]:=by
 have hn:(tkA TS 6).n=3:=by kernel_rfl
 have hall:(OPL.all fun x=> !isB TS 7 x.2)=true:=by kernel_rfl
 have h:=term_ok TS 6 (by rw[ts_len];decide) (by decide) (show isB TS 6 (⟨#[110,111,116]⟩:ByteArray)=false by kernel_rfl) (show isB TS 6 (⟨#[105,102]⟩:ByteArray)=false by kernel_rfl) (show isB TS 6 (⟨#[40]⟩:ByteArray)=false by kernel_rfl) (show isB TS 6 (⟨#[116,114,117,101]⟩:ByteArray)=false by kernel_rfl) (show isB TS 6 (⟨#[102,97,108,115,101]⟩:ByteArray)=false by kernel_rfl) (show isB TS 6 (⟨#[45]⟩:ByteArray)=false by kernel_rfl) (by rw[ts_len];decide) (by kernel_rfl) (fun x hx=>by
  have:=List.all_eq_true.1 hall x hx
  simpa using this)
 rw[hn]at h
 exact h
theorem is7:GM Tryz.prog 116 [.ptr 0 0 0 0,sG (⟨#[59]⟩:ByteArray)] [rdB TS 7] (bG true) [some (rdB TS 7)]:=by
 have h:=ris_ok TS 7 (by rw[ts_len];decide) (by decide) (⟨#[59]⟩:ByteArray)
 rw[(show isB TS 7 (⟨#[59]⟩:ByteArray)=true by kernel_rfl)]at h
 exact h
theorem name1:GM Tryz.prog 71 [.ptr 0 0 0 0] [rdB TS 1] (sG (⟨#[103,101,110,101,118,97]⟩:ByteArray)) [some (rdB TS 1)]:=by
 have h:=rname_ok TS 1 (by rw[ts_len];decide) (by decide) (by rw[ts_len];decide) (by kernel_rfl)
 rw[show (tkA TS 1).text=(⟨#[103,101,110,101,118,97]⟩:ByteArray)by kernel_rfl]at h
 exact h
theorem rule4:GM Tryz.prog 77 [.ptr 0 0 0 0,.ptr 1 0 0 0] [rdB TS 4,.box [sG (⟨#[103,101,110,101,118,97]⟩:ByteArray),bG false,.d (.sc (.slice none 0 0)),.d (.sc (.slice none 0 0))]] (.tup []) [some (rdB TS 8),some (.box [sG (⟨#[103,101,110,101,118,97]⟩:ByteArray),bG false,.d (.sc (.slice none 0 0)),.sl 2 4 0 1]),some (.row 173 4 (default:Int×Int×Int) ruC LL 0)]:=by
 refine gm_of_gk Tryz.func77 ?_
 refine gk_region env false [.call quest_ok,.callm [0] one4] [0,1,4] ?_ (hp:=(by simp only[AllP,bb,toN,loI,hiI];repeat' first|exact trivial|exact EntL.refl _|exact BEntL.refl _|exact rfl|omega|apply And.intro|intro _))
 refine gk_region env false [.call has0_rul] [0,1,4,16] ?_ (hp:=(by simp only[AllP,bb,toN,loI,hiI];repeat' first|exact trivial|exact EntL.refl _|exact ⟨Ent.refl _,Ent.junk _,trivial⟩|exact BEntL.refl _|exact rfl|omega|apply And.intro|intro _))
 refine gk_if (fun c1=> ?_) (fun c1=> ?_)
 ·cases c1
 refine gk_region env false [] [0,1,4] ?_ (hp:=(by simp only[AllP,bb,toN,loI,hiI];repeat' first|exact trivial|exact EntL.refl _|exact BEntL.refl _|exact rfl|omega|apply And.intro|intro _))
 refine gk_region env false [.callm [0] (need_yes TS 5 (by rw[ts_len];decide) (by decide) (⟨#[61]⟩:ByteArray) (show isB TS 5 (⟨#[61]⟩:ByteArray)=true by kernel_rfl))] [0,1,4] ?_ (hp:=(by simp only[AllP,bb,toN,loI,hiI];repeat' first|exact trivial|exact EntL.refl _|exact BEntL.refl _|exact rfl|omega|apply And.intro|intro _))
 refine gk_region env false [.callm [0] term6] [0,1,4,5] ?_ (hp:=(by simp only[AllP,bb,toN,loI,hiI];repeat' first|exact trivial|exact EntL.refl _|exact BEntL.refl _|exact rfl|omega|apply And.intro|intro _))
 refine gk_region env false [.callm [0] is7] [0,1,4,5,32] ?_ (hp:=(by simp only[AllP,bb,toN,loI,hiI];repeat' first|exact trivial|exact EntL.refl _|exact BEntL.refl _|exact rfl|omega|apply And.intro|intro _))
 refine gk_if (fun c2=> ?_) (fun c2=> ?_)
 ·cases c2
 refine gk_region env false [.call tCheck3_ok] [0,1,4,5,6,7] ?_ (hp:=(by simp only[AllP,bb,toN,loI,hiI];repeat' first|exact trivial|exact EntL.refl _|exact BEntL.refl _|exact rfl|omega|apply And.intro|intro _))
 refine gk_region env false [] [0,1,4,5,41] ?_ (hp:=(by simp only[AllP,bb,toN,loI,hiI];repeat' first|exact trivial|exact EntL.refl _|exact BEntL.refl _|exact rfl|omega|apply And.intro|intro _))
 refine gk_ifd (fun c3=> ?_) (fun c3=> ?_)
 ·exact absurd c3 (by decide)
 refine gk_region env false [] [0,1,4,5] ?_ (hp:=(by simp only[AllP,bb,toN,loI,hiI];repeat' first|exact trivial|exact EntL.refl _|exact BEntL.refl _|exact rfl|omega|apply And.intro|intro _))
 refine gk_nilB 1 3 173 4 (default:Int×Int×Int) ruC ?_
 refine gk_region env false [.el (default:Int×Int×Int) ruC [(6,0,3)],.el (default:Int×Int×Int) ruC [(6,0,3)]] [0,1] ?_ (hp:=(by simp only[AllP,bb,toN,loI,hiI,Int.toNat_natCast];repeat' first|exact trivial|exact EntL.refl _|exact BEntL.refl _|exact rfl|omega|apply And.intro|intro _|(simp[rowL];done)|(simp only[List.length_append,List.length_cons,List.length_nil];omega)|(simp[*];done)))
 refine gk_endX env [] (hp:= ?_)
 (try simp only[AllP,Nat.zero_add]);repeat' first|exact trivial|exact rfl|exact EntL.refl _|exact BEntL.refl _|omega|apply And.intro
theorem order0:GM Tryz.prog 40 [.ptr 0 0 0 0] [rdB TS 0] (.tup []) [some (.box [.d (.row default tkC TS),iG 9,iG 32,.sl 1 4 0 1]),some (.row 156 4 (default:ByteArray) odC [(⟨#[103,101,110,101,118,97]⟩:ByteArray)] 0)]:=by
 refine gm_of_gk Tryz.func40 ?_
 refine gk_region env false [.callm [0] (need_yes TS 0 (by rw[ts_len];decide) (by decide) (⟨#[111,114,100,101,114]⟩:ByteArray) (show isB TS 0 (⟨#[111,114,100,101,114]⟩:ByteArray)=true by kernel_rfl))] [0] ?_ (hp:=(by simp only[AllP,bb,toN,loI,hiI];repeat' first|exact trivial|exact EntL.refl _|exact BEntL.refl _|exact rfl|omega|apply And.intro|intro _))
 refine gk_region env false [.callm [0] name1] [0,2] ?_ (hp:=(by simp only[AllP,bb,toN,loI,hiI];repeat' first|exact trivial|exact EntL.refl _|exact BEntL.refl _|exact rfl|omega|apply And.intro|intro _))
 refine gk_region env false [.call has0_ord] [0,2,13] ?_ (hp:=(by simp only[AllP,bb,toN,loI,hiI];repeat' first|exact trivial|exact EntL.refl _|exact ⟨Ent.refl _,Ent.junk _,trivial⟩|exact BEntL.refl _|exact rfl|omega|apply And.intro|intro _))
 refine gk_if (fun c1=> ?_) (fun c1=> ?_)
 ·cases c1
 refine gk_region env false [] [0,2,21] ?_ (hp:=(by simp only[AllP,bb,toN,loI,hiI];repeat' first|exact trivial|exact EntL.refl _|exact BEntL.refl _|exact rfl|omega|apply And.intro|intro _))
 refine gk_ifd (fun c2=> ?_) (fun c2=> ?_)
 ·exact absurd c2 (by decide)
 refine gk_region env false [] [0,2] ?_ (hp:=(by simp only[AllP,bb,toN,loI,hiI];repeat' first|exact trivial|exact EntL.refl _|exact BEntL.refl _|exact rfl|omega|apply And.intro|intro _))
 refine gk_region env false [.callm [0] (take_no TS 2 (by rw[ts_len];decide) (by decide) (⟨#[97,99,99,101,112,116,115]⟩:ByteArray) (show isB TS 2 (⟨#[97,99,99,101,112,116,115]⟩:ByteArray)=false by kernel_rfl))] [0,2] ?_ (hp:=(by simp only[AllP,bb,toN,loI,hiI];repeat' first|exact trivial|exact EntL.refl _|exact BEntL.refl _|exact rfl|omega|apply And.intro|intro _))
 refine gk_region env false [.callm [0] (need_yes TS 2 (by rw[ts_len];decide) (by decide) (⟨#[123]⟩:ByteArray) (show isB TS 2 (⟨#[123]⟩:ByteArray)=true by kernel_rfl))] [0,2] ?_ (hp:=(by simp only[AllP,bb,toN,loI,hiI];repeat' first|exact trivial|exact EntL.refl _|exact BEntL.refl _|exact rfl|omega|apply And.intro|intro _))
 refine gk_loopS (α:=Bool) (fun _=>True) (fun c=>bif c then ⟨[(0,.ptr 0 0 0 0),(2,.ptr 1 0 0 0)],[(0,some (rdB TS 8)),(1,some (.box [sG (⟨#[103,101,110,101,118,97]⟩:ByteArray),bG false,.d (.sc (.slice none 0 0)),.sl 2 4 0 1])),(2,some (.row 173 4 (default:Int×Int×Int) ruC LL 0))],3⟩else ⟨[(0,.ptr 0 0 0 0),(2,.ptr 1 0 0 0)],[(0,some (rdB TS 3)),(1,some (.box [sG (⟨#[103,101,110,101,118,97]⟩:ByteArray),bG false,.d (.sc (.slice none 0 0)),.d (.sc (.slice none 0 0))]))],2⟩) (fun c=>bif c then 0 else 1) false trivial ?_ (hp:=by (try simp only[AllP,Nat.zero_add]);repeat' first|exact trivial|exact rfl|exact EntL.refl _|exact BEntL.refl _|omega|apply And.intro|(simp;done)|(simp[*];done))
 rintro cd-
 cases cd with
 |false=>
  simp only[cond_false]
  refine gk_region env false [.callm [0] (take_no TS 3 (by rw[ts_len];decide) (by decide) (⟨#[125]⟩:ByteArray) (show isB TS 3 (⟨#[125]⟩:ByteArray)=false by kernel_rfl))] [0,2,38] ?_ (hp:=(by simp only[AllP,bb,toN,loI,hiI];repeat' first|exact trivial|exact EntL.refl _|exact BEntL.refl _|exact rfl|omega|apply And.intro|intro _))
  refine gk_if (fun c3=> ?_) (fun c3=> ?_)
  ·refine gk_region env false [.callm [0] (take_no TS 3 (by rw[ts_len];decide) (by decide) (⟨#[99,104,111,111,115,101]⟩:ByteArray) (show isB TS 3 (⟨#[99,104,111,111,115,101]⟩:ByteArray)=false by kernel_rfl))] [0,2,41] ?_ (hp:=(by simp only[AllP,bb,toN,loI,hiI];repeat' first|exact trivial|exact EntL.refl _|exact BEntL.refl _|exact rfl|omega|apply And.intro|intro _))
   refine gk_if (fun c4=> ?_) (fun c4=> ?_)
   ·cases c4
   refine gk_region env false [.callm [0] (take_yes TS 3 (by rw[ts_len];decide) (by decide) (⟨#[114,117,108,101]⟩:ByteArray) (show isB TS 3 (⟨#[114,117,108,101]⟩:ByteArray)=true by kernel_rfl))] [0,2,46] ?_ (hp:=(by simp only[AllP,bb,toN,loI,hiI];repeat' first|exact trivial|exact EntL.refl _|exact BEntL.refl _|exact rfl|omega|apply And.intro|intro _))
   refine gk_if (fun c5=> ?_) (fun c5=> ?_)
   ·refine gk_region env false [.callm [0,1] rule4] [0,2] ?_ (hp:=(by simp only[AllP,bb,toN,loI,hiI];repeat' first|exact trivial|exact EntL.refl _|exact BEntL.refl _|exact rfl|omega|apply And.intro|intro _))
    exact gk_round true trivial (hp:=by (try simp only[AllP,Nat.zero_add]);repeat' first|exact trivial|exact rfl|exact EntL.refl _|exact BEntL.refl _|omega|apply And.intro) (hm:=by decide)
   ·cases c5
  ·cases c3
 |true=>
  simp only[cond_true]
  refine gk_row 2 ?_
  refine gk_region env false [.callm [0] (take_yes TS 8 (by rw[ts_len];decide) (by decide) (⟨#[125]⟩:ByteArray) (show isB TS 8 (⟨#[125]⟩:ByteArray)=true by kernel_rfl))] [0,2,38] ?_ (hp:=(by simp only[AllP,bb,toN,loI,hiI];repeat' first|exact trivial|exact EntL.refl _|exact BEntL.refl _|exact rfl|omega|apply And.intro|intro _))
  refine gk_if (fun c3=> ?_) (fun c3=> ?_)
  ·cases c3
  refine gk_region env false [.call srt_cho] [0,2] ?_ (hp:=(by simp only[AllP,bb,toN,loI,hiI];repeat' first|exact trivial|exact EntL.refl _|exact BEntL.refl _|exact rfl|omega|apply And.intro|intro _))
  refine gk_region env false [.call srt_rul] [0,2] ?_ (hp:=(by simp only[AllP,bb,toN,loI,hiI];repeat' first|exact trivial|exact EntL.refl _|exact BEntL.refl _|exact rfl|omega|apply And.intro|intro _))
  refine gk_nilB 0 3 156 4 (default:ByteArray) odC ?_
  refine gk_region env false [.el (default:ByteArray) odC [(⟨#[103,101,110,101,118,97]⟩:ByteArray)],.el (default:ByteArray) odC [(⟨#[103,101,110,101,118,97]⟩:ByteArray)]] [0] ?_ (hp:=(by simp only[AllP,bb,toN,loI,hiI,Int.toNat_natCast];repeat' first|exact trivial|exact EntL.refl _|exact BEntL.refl _|exact rfl|omega|apply And.intro|intro _|(simp[rowL];done)|(simp only[List.length_append,List.length_cons,List.length_nil];omega)|(simp[*];done)))
  refine gk_endX env [] (hp:= ?_)
  (try simp only[AllP,Nat.zero_add]);repeat' first|exact trivial|exact rfl|exact EntL.refl _|exact BEntL.refl _|omega|apply And.intro
theorem idle39 (v2 v3 v4:Value):Idle Tryz.prog {target:= .fn (.func 39) #[v2,v3,v4],args:= #[]} :=by
 refine ⟨_,_,39,#[v2,v3,v4],rfl,fun w=>by simp[go_sem],fun w=> ?_⟩
 refine callsDIn_of_wpSIn Tryz.func39 rfl trivial fun c₀ cs hu=> ?_
 apply wpSIn_seq
 apply wpSIn_region
 simp[wpOpsSIn,go_sem,recoverD,hu,Tryz.ntmps39,Go.Exit.thenS]
 apply wpSIn_seq
 apply wpSIn_region
 simp[wpOpsSIn,go_sem,recoverD,hu,Tryz.ntmps39,Go.Exit.thenS]
 refine wpSIn_cond (t:=false) (by simp[Act.eval]) ?_
 simp only[Bool.false_eq_true,if_false]
 refine wpSIn_of_wpIn rfl (wpIn_skip ?_)
 cases c₀
 simp_all[bodyPostS,results,Tryz.results39]
theorem parse_ok:GC Tryz.prog 14 [sG LIT] (.tup [.d (.row (default:ByteArray) odC [(⟨#[103,101,110,101,118,97]⟩:ByteArray)]),iG 0,iG 0]):=by
 refine gc_of_df Tryz.func14 rfl rfl rfl rfl rfl fun F a w hr hd=> ?_
 refine wp_step hr (Lives.none w) ?_
 refine gk_region env false [] [0,2,3,4] ?_
 refine ⟨rfl,fun ν1 F1 a1 w1 r1 l1 e1 p1=> ?_⟩
 refine wp_step r1 l1 ?_
 refine gk_region env false [.call lparse_ok] [0,2,3,4,5] ?_
 refine ⟨rfl,fun ν2 F2 a2 w2 r2 l2 e2 p2=> ?_⟩
 refine wp_step r2 l2 ?_
 refine gk_region env false [] [0,2,3,4,5,14] ?_
 refine gk_ifn (fun c1=> ?_) (fun c1=> ?_)
 ·exact absurd rfl c1
 refine ⟨rfl,fun ν3 F3 a3 w3 r3 l3 e3 p3=> ?_⟩
 have p13:=(p1.trans p2 e1.size).trans p3 (Nat.le_trans e1.size e2.size)
 obtain ⟨D1,hD1,hD2⟩:=p13.more
 rw[hd,List.append_nil]at hD1
 have e13:=(e1.trans e2).trans e3
 refine wp_defer r3 fun a4 cv hcv r4 hd4=> ?_
 match cv,hcv with
 |⟨[v2,v3,v4]⟩,_=>
 refine wp_rest rfl r4 e13 (hd4.trans (by rw[hD1])) hD2 (idle39 v2 v3 v4) ?_
 refine gk_set [(17,.junk),(14,.junk)] [] ?_
 refine gk_region env false [] [0,2,3,4,6] ?_ (hp:=(by simp only[AllP,bb,toN,loI,hiI];repeat' first|exact trivial|exact EntL.refl _|exact BEntL.refl _|exact rfl|omega|apply And.intro|intro _))
 refine gk_loopS (α:=Bool) (fun _=>True) (fun c=>bif c then ⟨[(2,.ptr 0 0 0 0),(3,.ptr 1 0 0 0),(4,.ptr 2 0 0 0),(6,.ptr 3 0 0 0)],[(0,some (.box [.d (.sc (.slice none 0 0))])),(1,some (.box [iG 0])),(2,some (.box [iG 0])),(3,some (.box [.d (.row default tkC TS),iG 9,iG 32,.sl 4 4 0 1])),(4,some (.row 156 4 (default:ByteArray) odC [(⟨#[103,101,110,101,118,97]⟩:ByteArray)] 0))],5⟩else ⟨[(2,.ptr 0 0 0 0),(3,.ptr 1 0 0 0),(4,.ptr 2 0 0 0),(6,.ptr 3 0 0 0)],[(0,some (.box [.d (.sc (.slice none 0 0))])),(1,some (.box [iG 0])),(2,some (.box [iG 0])),(3,some (rdB TS 0))],4⟩) (fun c=>bif c then 0 else 1) false trivial ?_ (hp:=by (try simp only[AllP,Nat.zero_add]);repeat' first|exact trivial|exact rfl|exact EntL.refl _|exact BEntL.refl _|omega|apply And.intro|(simp;done)|(simp[*];done))
 rintro cd-
 cases cd with
 |false=>
  simp only[cond_false]
  refine gk_region env false [] [2,3,4,6,32] ?_ (hp:=(by simp only[AllP,bb,toN,loI,hiI];repeat' first|exact trivial|exact EntL.refl _|exact BEntL.refl _|exact rfl|omega|apply And.intro|intro _))
  rw[ts_len]
  refine gk_ifd (fun c2=> ?_) (fun c2=> ?_)
  ·refine gk_region env false [.callm [3] order0] [2,3,4,6] ?_ (hp:=(by simp only[AllP,bb,toN,loI,hiI];repeat' first|exact trivial|exact EntL.refl _|exact BEntL.refl _|exact rfl|omega|apply And.intro|intro _))
   exact gk_round true trivial (hp:=by (try simp only[AllP,Nat.zero_add]);repeat' first|exact trivial|exact rfl|exact EntL.refl _|exact BEntL.refl _|omega|apply And.intro) (hm:=by decide)
  ·exact absurd (by decide) c2
 |true=>
  simp only[cond_true]
  refine gk_row 4 ?_
  refine gk_region env false [] [2,3,4,6,32] ?_ (hp:=(by simp only[AllP,bb,toN,loI,hiI];repeat' first|exact trivial|exact EntL.refl _|exact BEntL.refl _|exact rfl|omega|apply And.intro|intro _))
  rw[ts_len]
  refine gk_ifd (fun c2=> ?_) (fun c2=> ?_)
  ·exact absurd c2 (by decide)
  refine gk_region env false [] [2,3,4] ?_ (hp:=(by simp only[AllP,bb,toN,loI,hiI];repeat' first|exact trivial|exact EntL.refl _|exact BEntL.refl _|exact rfl|omega|apply And.intro|intro _))
  refine gk_ret env ?_
  rfl
end Go.Gh
