/- Walks by the logic of calls, and plain laws (several texts in one). -/
import Derived.Test.YtjnjegclenjlbaaGreatDoorM13
namespace Go.Gh
open Go Go.Proofs
set_option maxRecDepth 1000000
set_option maxHeartbeats 2000000
set_option linter.unusedSimpArgs false
set_option linter.unusedVariables false
set_option linter.unnecessarySimpa false
open Go.RowKit Go.Proofs
theorem mul64_50:GC Tryz.prog 128 [.d (.sc (.int .u64 50)),.d (.sc (.int .u64 100))] (.tup [.d (.sc (.int .u64 0)),.d (.sc (.int .u64 5000))]):=gc_of_old Tryz.func128 rfl rfl rfl rfl fun w=>(Tryz.bits_Mul64 50 100 (by decide) (by decide) w).mono fun e w' ⟨h1,h2⟩=>⟨h1,h2▸Below.refl _ _⟩
theorem div64_50:GC Tryz.prog 129 [.d (.sc (.int .u64 0)),.d (.sc (.int .u64 5000)),.d (.sc (.int .u64 100))] (.tup [.d (.sc (.int .u64 50)),.d (.sc (.int .u64 0))]):=by
 refine gc_of_gk Tryz.func129 ?_
 refine gk_region env false [] [0,1,2,6,7] ?_
 refine gk_region env false [] [0,1,2,6,7,20] ?_
 refine gk_ifd (fun c1=> ?_) (fun c1=> ?_)
 ·try simp only[toN]at c1
  exact absurd c1 (by decide)
 ·try simp only[toN]at c1
  refine gk_region env false [] [0,1,2,6,7,24] ?_
  refine gk_ifd (fun c2=> ?_) (fun c2=> ?_)
  ·try simp only[toN]at c2
   exact absurd c2 (by decide)
  ·try simp only[toN]at c2
   refine gk_region env false [] [0,1,2,6,7,27] ?_
   refine gk_ifd (fun c3=> ?_) (fun c3=> ?_)
   ·try simp only[toN]at c3
    refine gk_region env false [] [0,1,2,6,7] ?_ (hp:=(by simp only[AllP,bb,toN,loI,hiI];repeat' first|exact trivial|exact EntL.refl _|exact BEntL.refl _|exact rfl|omega|apply And.intro|intro _|decide))
    refine gk_ret env ?_
    rfl
   ·try simp only[toN]at c3
    exact absurd trivial c3
theorem part_50:GC Tryz.prog 84 [iG 50,iG 100,iG 100] (iG 50):=by
 refine gc_of_gk Tryz.func84 ?_
 refine gk_region env false [] [0,1,2,6] ?_
 refine gk_region env false [.call mul64_50] [2,6,7,8] ?_ (hp:=(by simp only[AllP,bb,toN,loI,hiI];repeat' first|exact trivial|exact EntL.refl _|exact BEntL.refl _|exact rfl|omega|apply And.intro|intro _|decide))
 refine gk_region env false [.call div64_50] [6,9] ?_ (hp:=(by simp only[AllP,bb,toN,loI,hiI];repeat' first|exact trivial|exact EntL.refl _|exact BEntL.refl _|exact rfl|omega|apply And.intro|intro _|decide))
 refine gk_region env false [] [6] ?_ (hp:=(by simp only[AllP,bb,toN,loI,hiI];repeat' first|exact trivial|exact EntL.refl _|exact BEntL.refl _|exact rfl|omega|apply And.intro|intro _|decide))
 refine gk_ret env ?_
 rfl
theorem mul64_0:GC Tryz.prog 128 [.d (.sc (.int .u64 0)),.d (.sc (.int .u64 100))] (.tup [.d (.sc (.int .u64 0)),.d (.sc (.int .u64 0))]):=gc_of_old Tryz.func128 rfl rfl rfl rfl fun w=>(Tryz.bits_Mul64 0 100 (by decide) (by decide) w).mono fun e w' ⟨h1,h2⟩=>⟨h1,h2▸Below.refl _ _⟩
theorem div64_0:GC Tryz.prog 129 [.d (.sc (.int .u64 0)),.d (.sc (.int .u64 0)),.d (.sc (.int .u64 100))] (.tup [.d (.sc (.int .u64 0)),.d (.sc (.int .u64 0))]):=by
 refine gc_of_gk Tryz.func129 ?_
 refine gk_region env false [] [0,1,2,6,7] ?_
 refine gk_region env false [] [0,1,2,6,7,20] ?_
 refine gk_ifd (fun c1=> ?_) (fun c1=> ?_)
 ·try simp only[toN]at c1
  exact absurd c1 (by decide)
 ·try simp only[toN]at c1
  refine gk_region env false [] [0,1,2,6,7,24] ?_
  refine gk_ifd (fun c2=> ?_) (fun c2=> ?_)
  ·try simp only[toN]at c2
   exact absurd c2 (by decide)
  ·try simp only[toN]at c2
   refine gk_region env false [] [0,1,2,6,7,27] ?_
   refine gk_ifd (fun c3=> ?_) (fun c3=> ?_)
   ·try simp only[toN]at c3
    refine gk_region env false [] [0,1,2,6,7] ?_ (hp:=(by simp only[AllP,bb,toN,loI,hiI];repeat' first|exact trivial|exact EntL.refl _|exact BEntL.refl _|exact rfl|omega|apply And.intro|intro _|decide))
    refine gk_ret env ?_
    rfl
   ·try simp only[toN]at c3
    exact absurd trivial c3
theorem part_0:GC Tryz.prog 84 [iG 0,iG 100,iG 100] (iG 0):=by
 refine gc_of_gk Tryz.func84 ?_
 refine gk_region env false [] [0,1,2,6] ?_
 refine gk_region env false [.call mul64_0] [2,6,7,8] ?_ (hp:=(by simp only[AllP,bb,toN,loI,hiI];repeat' first|exact trivial|exact EntL.refl _|exact BEntL.refl _|exact rfl|omega|apply And.intro|intro _|decide))
 refine gk_region env false [.call div64_0] [6,9] ?_ (hp:=(by simp only[AllP,bb,toN,loI,hiI];repeat' first|exact trivial|exact EntL.refl _|exact BEntL.refl _|exact rfl|omega|apply And.intro|intro _|decide))
 refine gk_region env false [] [6] ?_ (hp:=(by simp only[AllP,bb,toN,loI,hiI];repeat' first|exact trivial|exact EntL.refl _|exact BEntL.refl _|exact rfl|omega|apply And.intro|intro _|decide))
 refine gk_ret env ?_
 rfl
theorem share1_50:GM Tryz.prog 43 [iG 0,iG 50,.ptr 0 0 0 0,.ptr 1 0 0 0,.ep [.row (default:Prv) prC [⟨0,0,100⟩]]] [.box [.sl 2 2 0 1],.box [.sl 3 1 0 1],.row 66 2 (default:Pyo) pyC [⟨0,0⟩] 0,.row 3 1 (0:Int) inC [0] 0] (.tup []) [some (.box [.sl 2 2 0 1]),some (.box [.sl 3 1 0 1]),some (.row 66 2 (default:Pyo) pyC [⟨0,50⟩] 0),some (.row 3 1 (0:Int) inC [50] 0)]:=by
 refine gm_of_gk Tryz.func43 ?_
 refine gk_region env false [.el (default:Pyo) pyC [⟨0,50⟩]] [0,1,3,4] ?_ (hp:=(by simp only[AllP,bb,toN,loI,hiI];repeat' first|exact trivial|exact EntL.refl _|exact BEntL.refl _|exact rfl|omega|apply And.intro|intro _|decide))
 refine gk_region env false [.el (0:Int) inC [50]] [] ?_ (hp:=(by simp only[AllP,bb,toN,loI,hiI];repeat' first|exact trivial|exact EntL.refl _|exact BEntL.refl _|exact rfl|omega|apply And.intro|intro _|decide))
 refine gk_endX env [] (hp:= ?_)
 (try simp only[AllP,Nat.zero_add]);repeat' first|exact trivial|exact rfl|exact EntL.refl _|exact BEntL.refl _|omega|apply And.intro
theorem round_50:GM Tryz.prog 42 [iG 0,iG 50,.d (.row (0:Int) inC [100]),.d (.row (default:Prv) prC [⟨0,0,100⟩]),.fn (.func 43) [] [.ptr 0 0 0 0,.ptr 1 0 0 0,.ep [.row (default:Prv) prC [⟨0,0,100⟩]]]] [.box [.sl 2 2 0 1],.box [.sl 3 1 0 1],.row 66 2 (default:Pyo) pyC [⟨0,0⟩] 0,.row 3 1 (0:Int) inC [0] 0] (iG 50) [some (.box [.sl 2 2 0 1]),some (.box [.sl 3 1 0 1]),some (.row 66 2 (default:Pyo) pyC [⟨0,50⟩] 0),some (.row 3 1 (0:Int) inC [50] 0)]:=by
 refine gm_of_gk Tryz.func42 ?_
 refine gk_region env false [] [0,1,2,3,4,10] ?_
 refine gk_region env false [] [0,1,2,3,4,10,11] ?_
 refine gk_region env false [] [0,1,2,3,4,10,11,18,19,20] ?_
 refine gk_loop (α:=Bool) (fun _=>True) (fun c=>[(11,iG (bif c then 100 else 0)),(20,iG (bif c then 1 else 0))]) (fun _=>[]) (fun c=>bif c then 0 else 1) false trivial ?_ (hp:=by (try simp only[AllP,Nat.zero_add]);repeat' first|exact trivial|exact rfl|exact EntL.refl _|exact BEntL.refl _|omega|apply And.intro|(simp;done)|(simp[*];done))
 rintro cd-
 cases cd with
 |false=>
  simp only[cond_false]
  refine gk_region env false [] [0,1,2,3,4,10,11,18,19,20,21] ?_
  refine gk_ifd (fun c1=> ?_) (fun c1=> ?_)
  ·refine gk_region env false [] [0,1,2,3,4,10,11,12,13,18,19,20] ?_ (hp:=(by simp only[AllP,bb,toN,loI,hiI];repeat' first|exact trivial|exact EntL.refl _|exact BEntL.refl _|exact rfl|omega|apply And.intro|intro _|decide))
   refine gk_region env false [] [0,1,2,3,4,10,11,13,18,19,20,35] ?_ (hp:=(by simp only[AllP,bb,toN,loI,hiI];repeat' first|exact trivial|exact EntL.refl _|exact BEntL.refl _|exact rfl|omega|apply And.intro|intro _|decide))
   refine gk_if (fun c2=> ?_) (fun c2=> ?_)
   ·refine gk_region env false [] [0,1,2,3,4,10,11,18,19,20] ?_ (hp:=(by simp only[AllP,bb,toN,loI,hiI];repeat' first|exact trivial|exact EntL.refl _|exact BEntL.refl _|exact rfl|omega|apply And.intro|intro _|decide))
    refine gk_region env false [] [0,1,2,3,4,10,11,18,19,20] ?_ (hp:=(by simp only[AllP,bb,toN,loI,hiI];repeat' first|exact trivial|exact EntL.refl _|exact BEntL.refl _|exact rfl|omega|apply And.intro|intro _|decide))
    exact gk_round true trivial (hp:=by (try simp only[AllP,Nat.zero_add]);repeat' first|exact trivial|exact rfl|exact EntL.refl _|exact BEntL.refl _|omega|apply And.intro) (hm:=by decide)
   ·exact absurd c2 (by decide)
  ·exact absurd (by decide) c1
 |true=>
  simp only[cond_true]
  refine gk_region env false [] [0,1,2,3,4,10,11,18,19,20,21] ?_
  refine gk_ifd (fun c1=> ?_) (fun c1=> ?_)
  ·exact absurd c1 (by decide)
  clear c1
  refine gk_region env false [] [0,1,2,3,4,10,11,14] ?_
  refine gk_region env false [] [0,1,2,3,4,10,11,14,41,42,43] ?_
  refine gk_loop (α:=Bool) (fun _=>True) (fun c=>[(14,iG (bif c then 50 else 0)),(43,iG (bif c then 1 else 0))]) (fun c=>[(2,some (.row 66 2 (default:Pyo) pyC [⟨0,(bif c then 50 else 0)⟩] 0)),(3,some (.row 3 1 (0:Int) inC [(bif c then 50 else 0)] 0))]) (fun c=>bif c then 0 else 1) false trivial ?_ (hp:=by (try simp only[AllP,Nat.zero_add]);repeat' first|exact trivial|exact rfl|exact EntL.refl _|exact BEntL.refl _|omega|apply And.intro|(simp;done)|(simp[*];done))
  rintro cd-
  cases cd with
  |false=>
   simp only[cond_false]
   refine gk_region env false [] [0,1,2,3,4,10,11,14,41,42,43,44] ?_
   refine gk_ifd (fun c1=> ?_) (fun c1=> ?_)
   ·refine gk_region env false [] [0,1,2,3,4,10,11,14,15,16,41,42,43] ?_ (hp:=(by simp only[AllP,bb,toN,loI,hiI];repeat' first|exact trivial|exact EntL.refl _|exact BEntL.refl _|exact rfl|omega|apply And.intro|intro _|decide))
    refine gk_region env false [] [0,1,2,3,4,10,11,14,15,16,41,42,43,58] ?_ (hp:=(by simp only[AllP,bb,toN,loI,hiI];repeat' first|exact trivial|exact EntL.refl _|exact BEntL.refl _|exact rfl|omega|apply And.intro|intro _|decide))
    refine gk_if (fun c2=> ?_) (fun c2=> ?_)
    ·refine gk_region env false [.call part_50] [0,1,2,3,4,10,11,14,15,17,41,42,43] ?_ (hp:=(by simp only[AllP,bb,toN,loI,hiI];repeat' first|exact trivial|exact EntL.refl _|exact BEntL.refl _|exact rfl|omega|apply And.intro|intro _|decide))
     refine gk_region env false [] [0,1,2,3,4,10,11,14,15,17,41,42,43] ?_ (hp:=(by simp only[AllP,bb,toN,loI,hiI];repeat' first|exact trivial|exact EntL.refl _|exact BEntL.refl _|exact rfl|omega|apply And.intro|intro _|decide))
     refine gk_region env false [.callm [0,1,2,3] share1_50] [0,1,2,3,4,10,11,14,41,42,43] ?_ (hp:=(by simp only[AllP,bb,toN,loI,hiI];repeat' first|exact trivial|exact EntL.refl _|exact BEntL.refl _|exact rfl|omega|apply And.intro|intro _|decide))
     refine gk_region env false [] [0,1,2,3,4,10,11,14,41,42,43] ?_ (hp:=(by simp only[AllP,bb,toN,loI,hiI];repeat' first|exact trivial|exact EntL.refl _|exact BEntL.refl _|exact rfl|omega|apply And.intro|intro _|decide))
     exact gk_round true trivial (hp:=by (try simp only[AllP,Nat.zero_add]);repeat' first|exact trivial|exact rfl|exact EntL.refl _|exact BEntL.refl _|omega|apply And.intro) (hm:=by decide)
    ·exact absurd c2 (by decide)
   ·exact absurd (by decide) c1
  |true=>
   simp only[cond_true]
   refine gk_region env false [] [0,1,2,3,4,10,11,14,41,42,43,44] ?_
   refine gk_ifd (fun c1=> ?_) (fun c1=> ?_)
   ·exact absurd c1 (by decide)
   refine gk_region env false [] [0,10] ?_
   refine gk_retX env [iG 50] (hp:= ?_)
   (try simp only[AllP,Nat.zero_add]);repeat' first|exact trivial|exact rfl|exact EntL.refl _|exact BEntL.refl _|omega|apply And.intro
theorem share1_0:GM Tryz.prog 43 [iG 0,iG 0,.ptr 0 0 0 0,.ptr 1 0 0 0,.ep [.row (default:Prv) prC [⟨0,0,100⟩]]] [.box [.sl 2 2 0 1],.box [.sl 3 1 0 1],.row 66 2 (default:Pyo) pyC [⟨0,50⟩] 0,.row 3 1 (0:Int) inC [50] 0] (.tup []) [some (.box [.sl 2 2 0 1]),some (.box [.sl 3 1 0 1]),some (.row 66 2 (default:Pyo) pyC [⟨0,50⟩] 0),some (.row 3 1 (0:Int) inC [50] 0)]:=by
 refine gm_of_gk Tryz.func43 ?_
 refine gk_region env false [.el (default:Pyo) pyC [⟨0,50⟩]] [0,1,3,4] ?_ (hp:=(by simp only[AllP,bb,toN,loI,hiI];repeat' first|exact trivial|exact EntL.refl _|exact BEntL.refl _|exact rfl|omega|apply And.intro|intro _|decide))
 refine gk_region env false [.el (0:Int) inC [50]] [] ?_ (hp:=(by simp only[AllP,bb,toN,loI,hiI];repeat' first|exact trivial|exact EntL.refl _|exact BEntL.refl _|exact rfl|omega|apply And.intro|intro _|decide))
 refine gk_endX env [] (hp:= ?_)
 (try simp only[AllP,Nat.zero_add]);repeat' first|exact trivial|exact rfl|exact EntL.refl _|exact BEntL.refl _|omega|apply And.intro
theorem round_0:GM Tryz.prog 42 [iG 0,iG 0,.d (.row (0:Int) inC [50]),.d (.row (default:Prv) prC [⟨0,0,100⟩]),.fn (.func 43) [] [.ptr 0 0 0 0,.ptr 1 0 0 0,.ep [.row (default:Prv) prC [⟨0,0,100⟩]]]] [.box [.sl 2 2 0 1],.box [.sl 3 1 0 1],.row 66 2 (default:Pyo) pyC [⟨0,50⟩] 0,.row 3 1 (0:Int) inC [50] 0] (iG 0) [some (.box [.sl 2 2 0 1]),some (.box [.sl 3 1 0 1]),some (.row 66 2 (default:Pyo) pyC [⟨0,50⟩] 0),some (.row 3 1 (0:Int) inC [50] 0)]:=by
 refine gm_of_gk Tryz.func42 ?_
 refine gk_region env false [] [0,1,2,3,4,10] ?_
 refine gk_region env false [] [0,1,2,3,4,10,11] ?_
 refine gk_region env false [] [0,1,2,3,4,10,11,18,19,20] ?_
 refine gk_loop (α:=Bool) (fun _=>True) (fun c=>[(11,iG (bif c then 100 else 0)),(20,iG (bif c then 1 else 0))]) (fun _=>[]) (fun c=>bif c then 0 else 1) false trivial ?_ (hp:=by (try simp only[AllP,Nat.zero_add]);repeat' first|exact trivial|exact rfl|exact EntL.refl _|exact BEntL.refl _|omega|apply And.intro|(simp;done)|(simp[*];done))
 rintro cd-
 cases cd with
 |false=>
  simp only[cond_false]
  refine gk_region env false [] [0,1,2,3,4,10,11,18,19,20,21] ?_
  refine gk_ifd (fun c1=> ?_) (fun c1=> ?_)
  ·refine gk_region env false [] [0,1,2,3,4,10,11,12,13,18,19,20] ?_ (hp:=(by simp only[AllP,bb,toN,loI,hiI];repeat' first|exact trivial|exact EntL.refl _|exact BEntL.refl _|exact rfl|omega|apply And.intro|intro _|decide))
   refine gk_region env false [] [0,1,2,3,4,10,11,13,18,19,20,35] ?_ (hp:=(by simp only[AllP,bb,toN,loI,hiI];repeat' first|exact trivial|exact EntL.refl _|exact BEntL.refl _|exact rfl|omega|apply And.intro|intro _|decide))
   refine gk_if (fun c2=> ?_) (fun c2=> ?_)
   ·refine gk_region env false [] [0,1,2,3,4,10,11,18,19,20] ?_ (hp:=(by simp only[AllP,bb,toN,loI,hiI];repeat' first|exact trivial|exact EntL.refl _|exact BEntL.refl _|exact rfl|omega|apply And.intro|intro _|decide))
    refine gk_region env false [] [0,1,2,3,4,10,11,18,19,20] ?_ (hp:=(by simp only[AllP,bb,toN,loI,hiI];repeat' first|exact trivial|exact EntL.refl _|exact BEntL.refl _|exact rfl|omega|apply And.intro|intro _|decide))
    exact gk_round true trivial (hp:=by (try simp only[AllP,Nat.zero_add]);repeat' first|exact trivial|exact rfl|exact EntL.refl _|exact BEntL.refl _|omega|apply And.intro) (hm:=by decide)
   ·exact absurd c2 (by decide)
  ·exact absurd (by decide) c1
 |true=>
  simp only[cond_true]
  refine gk_region env false [] [0,1,2,3,4,10,11,18,19,20,21] ?_
  refine gk_ifd (fun c1=> ?_) (fun c1=> ?_)
  ·exact absurd c1 (by decide)
  clear c1
  refine gk_region env false [] [0,1,2,3,4,10,11,14] ?_
  refine gk_region env false [] [0,1,2,3,4,10,11,14,41,42,43] ?_
  refine gk_loop (α:=Bool) (fun _=>True) (fun c=>[(14,iG (bif c then 0 else 0)),(43,iG (bif c then 1 else 0))]) (fun c=>[(2,some (.row 66 2 (default:Pyo) pyC [⟨0,(bif c then 50 else 50)⟩] 0)),(3,some (.row 3 1 (0:Int) inC [(bif c then 50 else 50)] 0))]) (fun c=>bif c then 0 else 1) false trivial ?_ (hp:=by (try simp only[AllP,Nat.zero_add]);repeat' first|exact trivial|exact rfl|exact EntL.refl _|exact BEntL.refl _|omega|apply And.intro|(simp;done)|(simp[*];done))
  rintro cd-
  cases cd with
  |false=>
   simp only[cond_false]
   refine gk_region env false [] [0,1,2,3,4,10,11,14,41,42,43,44] ?_
   refine gk_ifd (fun c1=> ?_) (fun c1=> ?_)
   ·refine gk_region env false [] [0,1,2,3,4,10,11,14,15,16,41,42,43] ?_ (hp:=(by simp only[AllP,bb,toN,loI,hiI];repeat' first|exact trivial|exact EntL.refl _|exact BEntL.refl _|exact rfl|omega|apply And.intro|intro _|decide))
    refine gk_region env false [] [0,1,2,3,4,10,11,14,15,16,41,42,43,58] ?_ (hp:=(by simp only[AllP,bb,toN,loI,hiI];repeat' first|exact trivial|exact EntL.refl _|exact BEntL.refl _|exact rfl|omega|apply And.intro|intro _|decide))
    refine gk_if (fun c2=> ?_) (fun c2=> ?_)
    ·refine gk_region env false [.call part_0] [0,1,2,3,4,10,11,14,15,17,41,42,43] ?_ (hp:=(by simp only[AllP,bb,toN,loI,hiI];repeat' first|exact trivial|exact EntL.refl _|exact BEntL.refl _|exact rfl|omega|apply And.intro|intro _|decide))
     refine gk_region env false [] [0,1,2,3,4,10,11,14,15,17,41,42,43] ?_ (hp:=(by simp only[AllP,bb,toN,loI,hiI];repeat' first|exact trivial|exact EntL.refl _|exact BEntL.refl _|exact rfl|omega|apply And.intro|intro _|decide))
     refine gk_region env false [.callm [0,1,2,3] share1_0] [0,1,2,3,4,10,11,14,41,42,43] ?_ (hp:=(by simp only[AllP,bb,toN,loI,hiI];repeat' first|exact trivial|exact EntL.refl _|exact BEntL.refl _|exact rfl|omega|apply And.intro|intro _|decide))
     refine gk_region env false [] [0,1,2,3,4,10,11,14,41,42,43] ?_ (hp:=(by simp only[AllP,bb,toN,loI,hiI];repeat' first|exact trivial|exact EntL.refl _|exact BEntL.refl _|exact rfl|omega|apply And.intro|intro _|decide))
     exact gk_round true trivial (hp:=by (try simp only[AllP,Nat.zero_add]);repeat' first|exact trivial|exact rfl|exact EntL.refl _|exact BEntL.refl _|omega|apply And.intro) (hm:=by decide)
    ·exact absurd c2 (by decide)
   ·exact absurd (by decide) c1
  |true=>
   simp only[cond_true]
   refine gk_region env false [] [0,1,2,3,4,10,11,14,41,42,43,44] ?_
   refine gk_ifd (fun c1=> ?_) (fun c1=> ?_)
   ·exact absurd c1 (by decide)
   refine gk_region env false [] [0,10] ?_
   refine gk_retX env [iG 0] (hp:= ?_)
   (try simp only[AllP,Nat.zero_add]);repeat' first|exact trivial|exact rfl|exact EntL.refl _|exact BEntL.refl _|omega|apply And.intro
theorem share_ok:GC Tryz.prog 15 [.d (.row (default:Est) esC [⟨0,0,50⟩]),.d (.row (0:Int) inC [100]),.d (.row (default:Prv) prC [⟨0,0,100⟩])] (.tup [.d (.row (default:Pyo) pyC [⟨0,50⟩]),iG 0]):=by
 refine gc_of_gk Tryz.func15 ?_
 refine gk_region env false [] [0,1,5,6,7] ?_
 refine gk_box 0 ?_
 refine gk_region env false [.call eright_ok] [0,1,5,6,7,22] ?_
 refine gk_if (fun c1=> ?_) (fun c1=> ?_)
 ·cases c1
 clear c1
 refine gk_region env false [] [0,1,5,6,7,8] ?_
 refine gk_region env false [] [0,1,5,6,7,8,24,25] ?_
 refine gk_nilB 1 0 66 2 (default:Pyo) pyC ?_
 refine gk_loopS (α:=Bool) (fun _=>True) (fun c=>bif c then ⟨[(0,.d (.row (default:Est) esC [⟨0,0,50⟩])),(1,.d (.row (0:Int) inC [100])),(5,.ep [.row (default:Prv) prC [⟨0,0,100⟩]]),(6,.d (.sc (.slice none 0 0))),(7,iG 0),(8,.ptr 1 0 0 0),(24,iG 1),(25,iG 1)],[(1,some (.box [.sl 2 2 0 1])),(2,some (.row 66 2 (default:Pyo) pyC [⟨0,0⟩] 0))],3⟩else ⟨[(0,.d (.row (default:Est) esC [⟨0,0,50⟩])),(1,.d (.row (0:Int) inC [100])),(5,.ep [.row (default:Prv) prC [⟨0,0,100⟩]]),(6,.d (.sc (.slice none 0 0))),(7,iG 0),(8,.ptr 1 0 0 0),(24,iG 1),(25,iG 0)],[(1,some (.box [.sl 2 2 0 0])),(2,some (.row 66 2 (default:Pyo) pyC [] 0))],3⟩) (fun c=>bif c then 0 else 1) false trivial ?_ (hp:=by (try simp only[AllP,Nat.zero_add]);repeat' first|exact trivial|exact rfl|exact EntL.refl _|exact BEntL.refl _|omega|apply And.intro|(simp;done)|(simp[*];done))
 rintro cd-
 cases cd with
 |false=>
  simp only[cond_false]
  refine gk_region env false [] [0,1,5,6,7,8,24,25,26] ?_
  refine gk_ifd (fun c1=> ?_) (fun c1=> ?_)
  ·refine gk_region env false [] [0,1,5,6,7,8,9,24,25] ?_
   refine gk_region env false [.el (default:Pyo) pyC [⟨0,0⟩],.el (default:Pyo) pyC [⟨0,0⟩]] [0,1,5,6,7,8,24,25] ?_ (hp:=(by simp only[AllP,bb,toN,loI,hiI,Int.toNat_natCast];repeat' first|exact trivial|exact EntL.refl _|exact BEntL.refl _|exact rfl|omega|apply And.intro|intro _|(simp[rowL];done)|(simp only[List.length_append,List.length_cons,List.length_nil];omega)|(simp[*];done)))
   refine gk_region env false [] [0,1,5,6,7,8,24,25] ?_ (hp:=(by simp only[AllP,bb,toN,loI,hiI];repeat' first|exact trivial|exact EntL.refl _|exact BEntL.refl _|exact rfl|omega|apply And.intro|intro _|decide))
   exact gk_round true trivial (hp:=by (try simp only[AllP,Nat.zero_add]);repeat' first|exact trivial|exact rfl|exact EntL.refl _|exact BEntL.refl _|omega|apply And.intro) (hm:=by decide)
  ·exact absurd (by decide) c1
 |true=>
  simp only[cond_true]
  refine gk_region env false [] [0,1,5,6,7,8,24,25,26] ?_
  refine gk_ifd (fun c1=> ?_) (fun c1=> ?_)
  ·exact absurd c1 (by decide)
  clear c1
  refine gk_region env false [.el (0:Int) inC [0]] [0,1,5,6,7,8,10] ?_ (hp:=(by simp only[AllP,bb,toN,loI,hiI];repeat' first|exact trivial|exact EntL.refl _|exact BEntL.refl _|exact rfl|omega|apply And.intro|intro _|decide))
  refine gk_region env false [] [1,5,6,7,8,10,37,38,39] ?_
  refine gk_loop (α:=Bool) (fun _=>True) (fun c=>[(39,iG (bif c then 1 else 0))]) (fun c=>[(2,some (.row 66 2 (default:Pyo) pyC [⟨0,(bif c then 50 else 0)⟩] 0)),(3,some (.row 3 1 (0:Int) inC [(bif c then 50 else 0)] 0))]) (fun c=>bif c then 0 else 1) false trivial ?_ (hp:=by (try simp only[AllP,Nat.zero_add]);repeat' first|exact trivial|exact rfl|exact EntL.refl _|exact BEntL.refl _|omega|apply And.intro|(simp;done)|(simp[*];done))
  rintro cd-
  cases cd with
  |false=>
   simp only[cond_false]
   refine gk_region env false [] [1,5,6,7,8,10,37,38,39,40] ?_
   refine gk_ifd (fun c1=> ?_) (fun c1=> ?_)
   ·refine gk_region env false [] [1,5,6,7,8,10,11,12,37,38,39] ?_ (hp:=(by simp only[AllP,bb,toN,loI,hiI];repeat' first|exact trivial|exact EntL.refl _|exact BEntL.refl _|exact rfl|omega|apply And.intro|intro _|decide))
    refine gk_region env false [] [1,5,6,7,8,10,11,13,37,38,39] ?_ (hp:=(by simp only[AllP,bb,toN,loI,hiI];repeat' first|exact trivial|exact EntL.refl _|exact BEntL.refl _|exact rfl|omega|apply And.intro|intro _|decide))
    refine gk_loop (α:=Bool) (fun _=>True) (fun c=>[(13,iG (bif c then 0 else 50))]) (fun c=>[(2,some (.row 66 2 (default:Pyo) pyC [⟨0,(bif c then 50 else 0)⟩] 0)),(3,some (.row 3 1 (0:Int) inC [(bif c then 50 else 0)] 0))]) (fun c=>bif c then 0 else 1) false trivial ?_ (hp:=by (try simp only[AllP,Nat.zero_add]);repeat' first|exact trivial|exact rfl|exact EntL.refl _|exact BEntL.refl _|omega|apply And.intro|(simp;done)|(simp[*];done))
    rintro ci-
    cases ci with
    |false=>
     simp only[cond_false]
     refine gk_region env false [.el (0:Int) inC [0]] [1,5,6,7,8,10,11,13,14,37,38,39] ?_ (hp:=(by simp only[AllP,bb,toN,loI,hiI];repeat' first|exact trivial|exact EntL.refl _|exact BEntL.refl _|exact rfl|omega|apply And.intro|intro _|decide))
     refine gk_region env false [] [1,5,6,7,8,10,11,13,14,37,38,39,49,50,51] ?_ (hp:=(by simp only[AllP,bb,toN,loI,hiI];repeat' first|exact trivial|exact EntL.refl _|exact BEntL.refl _|exact rfl|omega|apply And.intro|intro _|decide))
     refine gk_loop (α:=Bool) (fun _=>True) (fun c=>[(51,iG (bif c then 1 else 0))]) (fun c=>[(6,some (.row 3 1 (0:Int) inC [(bif c then 100 else 0)] 0))]) (fun c=>bif c then 0 else 1) false trivial ?_ (hp:=by (try simp only[AllP,Nat.zero_add]);repeat' first|exact trivial|exact rfl|exact EntL.refl _|exact BEntL.refl _|omega|apply And.intro|(simp;done)|(simp[*];done))
     rintro cl-
     cases cl with
     |false=>
      simp only[cond_false]
      refine gk_region env false [] [1,5,6,7,8,10,11,13,14,37,38,39,49,50,51,52] ?_
      refine gk_ifd (fun c2=> ?_) (fun c2=> ?_)
      ·refine gk_region env false [] [1,5,6,7,8,10,11,13,14,15,16,37,38,39,49,50,51] ?_ (hp:=(by simp only[AllP,bb,toN,loI,hiI];repeat' first|exact trivial|exact EntL.refl _|exact BEntL.refl _|exact rfl|omega|apply And.intro|intro _|decide))
       refine gk_region env false [.el (0:Int) inC [100]] [1,5,6,7,8,10,11,13,14,37,38,39,49,50,51] ?_ (hp:=(by simp only[AllP,bb,toN,loI,hiI];repeat' first|exact trivial|exact EntL.refl _|exact BEntL.refl _|exact rfl|omega|apply And.intro|intro _|decide))
       refine gk_region env false [] [1,5,6,7,8,10,11,13,14,37,38,39,49,50,51] ?_ (hp:=(by simp only[AllP,bb,toN,loI,hiI];repeat' first|exact trivial|exact EntL.refl _|exact BEntL.refl _|exact rfl|omega|apply And.intro|intro _|decide))
       exact gk_round true trivial (hp:=by (try simp only[AllP,Nat.zero_add]);repeat' first|exact trivial|exact rfl|exact EntL.refl _|exact BEntL.refl _|omega|apply And.intro) (hm:=by decide)
      ·exact absurd (by decide) c2
     |true=>
      simp only[cond_true]
      refine gk_region env false [] [1,5,6,7,8,10,11,13,14,37,38,39,49,50,51,52] ?_
      refine gk_ifd (fun c2=> ?_) (fun c2=> ?_)
      ·exact absurd c2 (by decide)
      refine gk_row 6 ?_
      refine gk_region env false [.callm [1,4,2,3] round_50] [1,5,6,7,8,10,11,13,17,37,38,39] ?_ (hp:=(by simp only[AllP,bb,toN,loI,hiI];repeat' first|exact trivial|exact EntL.refl _|exact BEntL.refl _|exact rfl|omega|apply And.intro|intro _|decide))
      refine gk_region env false [] [1,5,6,7,8,10,11,13,17,37,38,39,87] ?_
      refine gk_ifd (fun c3=> ?_) (fun c3=> ?_)
      ·exact absurd c3 (by decide)
      refine gk_region env false [] [1,5,6,7,8,10,11,13,37,38,39] ?_ (hp:=(by simp only[AllP,bb,toN,loI,hiI];repeat' first|exact trivial|exact EntL.refl _|exact BEntL.refl _|exact rfl|omega|apply And.intro|intro _|decide))
      exact gk_round true trivial (hp:=by (try simp only[AllP,Nat.zero_add]);repeat' first|exact trivial|exact rfl|exact EntL.refl _|exact BEntL.refl _|omega|apply And.intro) (hm:=by decide)
    |true=>
     simp only[cond_true]
     refine gk_region env false [.el (0:Int) inC [0]] [1,5,6,7,8,10,11,13,14,37,38,39] ?_ (hp:=(by simp only[AllP,bb,toN,loI,hiI];repeat' first|exact trivial|exact EntL.refl _|exact BEntL.refl _|exact rfl|omega|apply And.intro|intro _|decide))
     refine gk_region env false [] [1,5,6,7,8,10,11,13,14,37,38,39,49,50,51] ?_ (hp:=(by simp only[AllP,bb,toN,loI,hiI];repeat' first|exact trivial|exact EntL.refl _|exact BEntL.refl _|exact rfl|omega|apply And.intro|intro _|decide))
     refine gk_loop (α:=Bool) (fun _=>True) (fun c=>[(51,iG (bif c then 1 else 0))]) (fun c=>[(6,some (.row 3 1 (0:Int) inC [(bif c then 50 else 0)] 0))]) (fun c=>bif c then 0 else 1) false trivial ?_ (hp:=by (try simp only[AllP,Nat.zero_add]);repeat' first|exact trivial|exact rfl|exact EntL.refl _|exact BEntL.refl _|omega|apply And.intro|(simp;done)|(simp[*];done))
     rintro cl-
     cases cl with
     |false=>
      simp only[cond_false]
      refine gk_region env false [] [1,5,6,7,8,10,11,13,14,37,38,39,49,50,51,52] ?_
      refine gk_ifd (fun c2=> ?_) (fun c2=> ?_)
      ·refine gk_region env false [] [1,5,6,7,8,10,11,13,14,15,16,37,38,39,49,50,51] ?_ (hp:=(by simp only[AllP,bb,toN,loI,hiI];repeat' first|exact trivial|exact EntL.refl _|exact BEntL.refl _|exact rfl|omega|apply And.intro|intro _|decide))
       refine gk_region env false [.el (0:Int) inC [50]] [1,5,6,7,8,10,11,13,14,37,38,39,49,50,51] ?_ (hp:=(by simp only[AllP,bb,toN,loI,hiI];repeat' first|exact trivial|exact EntL.refl _|exact BEntL.refl _|exact rfl|omega|apply And.intro|intro _|decide))
       refine gk_region env false [] [1,5,6,7,8,10,11,13,14,37,38,39,49,50,51] ?_ (hp:=(by simp only[AllP,bb,toN,loI,hiI];repeat' first|exact trivial|exact EntL.refl _|exact BEntL.refl _|exact rfl|omega|apply And.intro|intro _|decide))
       exact gk_round true trivial (hp:=by (try simp only[AllP,Nat.zero_add]);repeat' first|exact trivial|exact rfl|exact EntL.refl _|exact BEntL.refl _|omega|apply And.intro) (hm:=by decide)
      ·exact absurd (by decide) c2
     |true=>
      simp only[cond_true]
      refine gk_region env false [] [1,5,6,7,8,10,11,13,14,37,38,39,49,50,51,52] ?_
      refine gk_ifd (fun c2=> ?_) (fun c2=> ?_)
      ·exact absurd c2 (by decide)
      refine gk_row 6 ?_
      refine gk_region env false [.callm [1,4,2,3] round_0] [1,5,6,7,8,10,11,13,17,37,38,39] ?_ (hp:=(by simp only[AllP,bb,toN,loI,hiI];repeat' first|exact trivial|exact EntL.refl _|exact BEntL.refl _|exact rfl|omega|apply And.intro|intro _|decide))
      refine gk_region env false [] [1,5,6,7,8,10,11,13,17,37,38,39,87] ?_
      refine gk_ifd (fun c3=> ?_) (fun c3=> ?_)
      ·refine gk_region env false [] [1,5,6,7,8,10,37,38,39] ?_ (hp:=(by simp only[AllP,bb,toN,loI,hiI];repeat' first|exact trivial|exact EntL.refl _|exact BEntL.refl _|exact rfl|omega|apply And.intro|intro _|decide))
       exact gk_round true trivial (hp:=by (try simp only[AllP,Nat.zero_add]);repeat' first|exact trivial|exact rfl|exact EntL.refl _|exact BEntL.refl _|omega|apply And.intro) (hm:=by decide)
      ·exact absurd rfl c3
   ·exact absurd (by decide) c1
  |true=>
   simp only[cond_true]
   refine gk_region env false [] [1,5,6,7,8,10,37,38,39,40] ?_
   refine gk_ifd (fun c1=> ?_) (fun c1=> ?_)
   ·exact absurd c1 (by decide)
   refine gk_row 2 ?_
   refine gk_region env false [] [6,7] ?_
   refine gk_ret env ?_
   rfl
end Go.Gh
