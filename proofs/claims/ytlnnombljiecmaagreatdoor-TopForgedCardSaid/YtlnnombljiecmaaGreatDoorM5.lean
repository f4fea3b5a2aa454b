/- Walks by the logic of calls, and plain laws (several texts in one). -/
import Derived.Test.YtlnnombljiecmaaGreatDoorProg
import Derived.Test.YtlnnombljiecmaaGreatDoorM4
import Derived.WalkKit
import Derived.WalkSpells
import Derived.WalkLawsBesides
import Derived.Handy
import Derived.Deep.QuietTactic
import Derived.BigQuiet
import Derived.Lib.Hide
import Derived.Test.YtlnnombljiecmaaGreatDoorM3
import Derived.Test.YtlnnombljiecmaaGreatDoorGh4
namespace Go.Proofs.YtlnnombljiecmaaGreatDoor
open Go.RowKit
set_option maxRecDepth 2000 in
set_option maxHeartbeats 1000000 in
theorem zEl (hi lo y s Y v1 v0 U1 U0 u1 u0 q r D1 R1 q' r' D0 R0:Nat) (w:World) (h0:0<hi) (h1:hi<y)
 (hs:s<64)
 (hY:9223372036854775808≤Y) (hY2:Y<18446744073709551616) (hv1:2147483648≤v1) (hv1b:v1<4294967296) (hv0:v0<4294967296)
 (hu1:u1<4294967296) (hu0:u0<4294967296)
 (e1:IntKind.u64.wrap (↑y*2^s)=(Y:Int))
 (e2:(Y:Int)/4294967296=v1)
 (e3:bits BinOp.and IntKind.u64 (Y:Int) 4294967295=v0)
 (e4:bits BinOp.or IntKind.u64 (IntKind.u64.wrap (↑hi*2^s)) (↑lo/2^(64-s))=(U1:Int))
 (e5:IntKind.u64.wrap (↑lo*2^s)=(U0:Int))
 (e6:(U0:Int)/4294967296=u1)
 (e7:bits BinOp.and IntKind.u64 (U0:Int) 4294967295=u0)
 (e8:(U1:Int)/v1=q) (e9:(U1:Int)-IntKind.u64.wrap (q*v1)=r)
 (hD1:Hid (((U1:Int)*4294967296+u1)/Y=(D1:Int))) (hDb:D1<4294967296)
 (e11:IntKind.u64.wrap (IntKind.u64.wrap (IntKind.u64.wrap ((U1:Int)*4294967296)+u1)-IntKind.u64.wrap (D1*Y))=(R1:Int))
 (f8:(R1:Int)/v1=q') (f9:(R1:Int)-IntKind.u64.wrap (q'*v1)=r')
 (hD0:Hid (((R1:Int)*4294967296+u0)/Y=(D0:Int))) (hDc:D0<4294967296)
 (f11:IntKind.u64.wrap (IntKind.u64.wrap (IntKind.u64.wrap ((R1:Int)*4294967296)+u0)-IntKind.u64.wrap (D0*Y))=(R0:Int))
 (HY:Hid ((Y:Int)=v1*4294967296+v0))
 (q1:Hid ((U1:Int)=q*v1+r)) (q2:q≤4294967297) (q3:r<v1) (q4:D1≤q)
 (p1:Hid ((R1:Int)=q'*v1+r')) (p2:q'≤4294967297) (p3:r'<v1) (p4:D0≤q')
 (hlz:Hid (Calls Tryz.prog 263 #[.int .u64 y] w fun e w'=>e= .returned (.int .i64 s)∧w=w')):
 Calls Tryz.prog 232 #[.int .u64 hi,.int .u64 lo,.int .u64 y] w fun e w'=>e= .returned (.tuple #[.int .u64 ((D1:Int)*4294967296+D0),.int .u64 ((R0:Int)/2^s)])∧w=w':=by
 have hb0:((y:Int)==0)=false:=by simp;omega
 have hb1:((hi:Int)==0)=false:=by simp;omega
 have hb2:((v1:Int)==0)=false:=by simp;omega
 have hle:¬(y:Int)≤hi:=by omega
 have hwr1:IntKind.u64.wrap (r:Int)=r:=IntWalk.u64_in _ (by omega)
 have hwr2:IntKind.u64.wrap (r':Int)=r':=IntWalk.u64_in _ (by omega)
 go_enter Tryz.func232,Tryz.ntmps232
 go_wp2_with (go_at_call 263;refine hlz.mono ?_;rintro e w' ⟨rfl,rfl⟩)
 clear e1 e2 e3 e4 e5 e6 e7 e8 e9 hwr1 hb0 hb1 hle hlz
 have hYp:(0:Int)<Y:=by omega
 clear h0 h1 hY hY2
 go_loop [15,16] (fun a b=>∃x z:Int,a= .int .u64 x∧b= .int .u64 z∧Hid ((U1:Int)=x*v1+z)∧(D1:Int)≤x∧x≤4294967297∧0≤z∧z<4294967296) (fun a _=>(intOf a).toNat)
 case atStart=>exact ⟨q,r,rfl,rfl,q1,by omega,by omega,by omega,by omega⟩
 case round=>
  obtain ⟨x,z,rfl,rfl,HU,x1,x2,z1,z2⟩:=hrel
  have hb:0≤x*v0∧x*v0≤18446744073709551615:=by
   refine ⟨Int.mul_nonneg (by omega) (by omega),?_⟩
   have:=Int.mul_le_mul x2 (show (v0:Int)≤4294967295 by omega) (by omega) (by omega)
   omega
  obtain ⟨hb1',hb2'⟩:=hb
  by_cases hB:4294967296≤x
  ·have hdn:=Dv.down _ _ _ _ HU.out
   have HD:=Lib.hid hdn
   clear hdn
   by_cases hz:4294967296≤z+v1
   ·have hxd:x=D1+1:=by
     have:=Dv.at_break U1 u1 (x-1) (z+v1) v1 v0 Y HY.out HD.out hYp (by omega) (by omega) (by omega) hz (by omega)
     have:=hD1.out;omega
    clear HD HU
    subst hxd
    go_wp2
    clear e11 f8 f9 hb1' hb2' hB
    try clear hz
    try clear hC
    go_loop [18,16] (fun a b=>∃x z:Int,a= .int .u64 x∧b= .int .u64 z∧Hid ((R1:Int)=x*v1+z)∧(D0:Int)≤x∧x≤4294967297∧0≤z∧z<4294967296) (fun a _=>(intOf a).toNat)
    case atStart=>exact ⟨q',r',rfl,rfl,p1,by omega,by omega,by omega,by omega⟩
    case round=>
     obtain ⟨x,z,rfl,rfl,HU,x1,x2,z1,z2⟩:=hrel
     have hb:0≤x*v0∧x*v0≤18446744073709551615:=by
      refine ⟨Int.mul_nonneg (by omega) (by omega),?_⟩
      have:=Int.mul_le_mul x2 (show (v0:Int)≤4294967295 by omega) (by omega) (by omega)
      omega
     obtain ⟨hb1',hb2'⟩:=hb
     by_cases hB:4294967296≤x
     ·have hdn:=Dv.down _ _ _ _ HU.out
      have HD:=Lib.hid hdn
      clear hdn
      by_cases hz:4294967296≤z+v1
      ·have hxd:x=D0+1:=by
        have:=Dv.at_break R1 u0 (x-1) (z+v1) v1 v0 Y HY.out HD.out hYp (by omega) (by omega) (by omega) hz (by omega)
        have:=hD0.out;omega
       clear HD HU
       subst hxd
       go_wp2
       go_ret2
       exact ⟨rfl,rfl⟩
      ·go_wp2
       go_round
       case rel=>exact ⟨x-1,z+v1,rfl,rfl,HD,by omega,by omega,by omega,by omega⟩
       case measure=>simp[intOf];omega
     ·by_cases hC:4294967296*z+u0<x*v0
      ·have hlt:=Dv.too_great R1 u0 x z v1 v0 Y HY.out HU.out hYp (by omega)
       have hlt':(D0:Int)<x:=by have:=hD0.out;omega
       clear hlt
       have hdn:=Dv.down _ _ _ _ HU.out
       have HD:=Lib.hid hdn
       clear hdn
       by_cases hz:4294967296≤z+v1
       ·have hxd:x=D0+1:=by
         have:=Dv.at_break R1 u0 (x-1) (z+v1) v1 v0 Y HY.out HD.out hYp (by omega) (by omega) (by omega) hz (by omega)
         have:=hD0.out;omega
        clear HD HU
        subst hxd
        go_wp2
        go_ret2
        exact ⟨rfl,rfl⟩
       ·go_wp2
        go_round
        case rel=>exact ⟨x-1,z+v1,rfl,rfl,HD,by omega,by omega,by omega,by omega⟩
        case measure=>simp[intOf];omega
      ·have hxd:x=D0:=by
        have:=Dv.fits R1 u0 x z v1 v0 Y HY.out HU.out hYp (by omega)
        have:=hD0.out;omega
       clear HU
       subst hxd
       go_wp2
       go_ret2
       exact ⟨rfl,rfl⟩
   ·go_wp2
    go_round
    case rel=>exact ⟨x-1,z+v1,rfl,rfl,HD,by omega,by omega,by omega,by omega⟩
    case measure=>simp[intOf];omega
  ·by_cases hC:4294967296*z+u1<x*v0
   ·have hlt:=Dv.too_great U1 u1 x z v1 v0 Y HY.out HU.out hYp (by omega)
    have hlt':(D1:Int)<x:=by have:=hD1.out;omega
    clear hlt
    have hdn:=Dv.down _ _ _ _ HU.out
    have HD:=Lib.hid hdn
    clear hdn
    by_cases hz:4294967296≤z+v1
    ·have hxd:x=D1+1:=by
      have:=Dv.at_break U1 u1 (x-1) (z+v1) v1 v0 Y HY.out HD.out hYp (by omega) (by omega) (by omega) hz (by omega)
      have:=hD1.out;omega
     clear HD HU
     subst hxd
     go_wp2
     clear e11 f8 f9 hb1' hb2' hB
     try clear hz
     try clear hC
     go_loop [18,16] (fun a b=>∃x z:Int,a= .int .u64 x∧b= .int .u64 z∧Hid ((R1:Int)=x*v1+z)∧(D0:Int)≤x∧x≤4294967297∧0≤z∧z<4294967296) (fun a _=>(intOf a).toNat)
     case atStart=>exact ⟨q',r',rfl,rfl,p1,by omega,by omega,by omega,by omega⟩
     case round=>
      obtain ⟨x,z,rfl,rfl,HU,x1,x2,z1,z2⟩:=hrel
      have hb:0≤x*v0∧x*v0≤18446744073709551615:=by
       refine ⟨Int.mul_nonneg (by omega) (by omega),?_⟩
       have:=Int.mul_le_mul x2 (show (v0:Int)≤4294967295 by omega) (by omega) (by omega)
       omega
      obtain ⟨hb1',hb2'⟩:=hb
      by_cases hB:4294967296≤x
      ·have hdn:=Dv.down _ _ _ _ HU.out
       have HD:=Lib.hid hdn
       clear hdn
       by_cases hz:4294967296≤z+v1
       ·have hxd:x=D0+1:=by
         have:=Dv.at_break R1 u0 (x-1) (z+v1) v1 v0 Y HY.out HD.out hYp (by omega) (by omega) (by omega) hz (by omega)
         have:=hD0.out;omega
        clear HD HU
        subst hxd
        go_wp2
        go_ret2
        exact ⟨rfl,rfl⟩
       ·go_wp2
        go_round
        case rel=>exact ⟨x-1,z+v1,rfl,rfl,HD,by omega,by omega,by omega,by omega⟩
        case measure=>simp[intOf];omega
      ·by_cases hC:4294967296*z+u0<x*v0
       ·have hlt:=Dv.too_great R1 u0 x z v1 v0 Y HY.out HU.out hYp (by omega)
        have hlt':(D0:Int)<x:=by have:=hD0.out;omega
        clear hlt
        have hdn:=Dv.down _ _ _ _ HU.out
        have HD:=Lib.hid hdn
        clear hdn
        by_cases hz:4294967296≤z+v1
        ·have hxd:x=D0+1:=by
          have:=Dv.at_break R1 u0 (x-1) (z+v1) v1 v0 Y HY.out HD.out hYp (by omega) (by omega) (by omega) hz (by omega)
          have:=hD0.out;omega
         clear HD HU
         subst hxd
         go_wp2
         go_ret2
         exact ⟨rfl,rfl⟩
        ·go_wp2
         go_round
         case rel=>exact ⟨x-1,z+v1,rfl,rfl,HD,by omega,by omega,by omega,by omega⟩
         case measure=>simp[intOf];omega
       ·have hxd:x=D0:=by
         have:=Dv.fits R1 u0 x z v1 v0 Y HY.out HU.out hYp (by omega)
         have:=hD0.out;omega
        clear HU
        subst hxd
        go_wp2
        go_ret2
        exact ⟨rfl,rfl⟩
    ·go_wp2
     go_round
     case rel=>exact ⟨x-1,z+v1,rfl,rfl,HD,by omega,by omega,by omega,by omega⟩
     case measure=>simp[intOf];omega
   ·have hxd:x=D1:=by
     have:=Dv.fits U1 u1 x z v1 v0 Y HY.out HU.out hYp (by omega)
     have:=hD1.out;omega
    clear HU
    subst hxd
    go_wp2
    clear e11 f8 f9 hb1' hb2' hB
    try clear hz
    try clear hC
    go_loop [18,16] (fun a b=>∃x z:Int,a= .int .u64 x∧b= .int .u64 z∧Hid ((R1:Int)=x*v1+z)∧(D0:Int)≤x∧x≤4294967297∧0≤z∧z<4294967296) (fun a _=>(intOf a).toNat)
    case atStart=>exact ⟨q',r',rfl,rfl,p1,by omega,by omega,by omega,by omega⟩
    case round=>
     obtain ⟨x,z,rfl,rfl,HU,x1,x2,z1,z2⟩:=hrel
     have hb:0≤x*v0∧x*v0≤18446744073709551615:=by
      refine ⟨Int.mul_nonneg (by omega) (by omega),?_⟩
      have:=Int.mul_le_mul x2 (show (v0:Int)≤4294967295 by omega) (by omega) (by omega)
      omega
     obtain ⟨hb1',hb2'⟩:=hb
     by_cases hB:4294967296≤x
     ·have hdn:=Dv.down _ _ _ _ HU.out
      have HD:=Lib.hid hdn
      clear hdn
      by_cases hz:4294967296≤z+v1
      ·have hxd:x=D0+1:=by
        have:=Dv.at_break R1 u0 (x-1) (z+v1) v1 v0 Y HY.out HD.out hYp (by omega) (by omega) (by omega) hz (by omega)
        have:=hD0.out;omega
       clear HD HU
       subst hxd
       go_wp2
       go_ret2
       exact ⟨rfl,rfl⟩
      ·go_wp2
       go_round
       case rel=>exact ⟨x-1,z+v1,rfl,rfl,HD,by omega,by omega,by omega,by omega⟩
       case measure=>simp[intOf];omega
     ·by_cases hC:4294967296*z+u0<x*v0
      ·have hlt:=Dv.too_great R1 u0 x z v1 v0 Y HY.out HU.out hYp (by omega)
       have hlt':(D0:Int)<x:=by have:=hD0.out;omega
       clear hlt
       have hdn:=Dv.down _ _ _ _ HU.out
       have HD:=Lib.hid hdn
       clear hdn
       by_cases hz:4294967296≤z+v1
       ·have hxd:x=D0+1:=by
         have:=Dv.at_break R1 u0 (x-1) (z+v1) v1 v0 Y HY.out HD.out hYp (by omega) (by omega) (by omega) hz (by omega)
         have:=hD0.out;omega
        clear HD HU
        subst hxd
        go_wp2
        go_ret2
        exact ⟨rfl,rfl⟩
       ·go_wp2
        go_round
        case rel=>exact ⟨x-1,z+v1,rfl,rfl,HD,by omega,by omega,by omega,by omega⟩
        case measure=>simp[intOf];omega
      ·have hxd:x=D0:=by
        have:=Dv.fits R1 u0 x z v1 v0 Y HY.out HU.out hYp (by omega)
        have:=hD0.out;omega
       clear HU
       subst hxd
       go_wp2
       go_ret2
       exact ⟨rfl,rfl⟩
end Go.Proofs.YtlnnombljiecmaaGreatDoor
namespace Go.Proofs.YtlnnombljiecmaaGreatDoor
open Go.RowKit
theorem ZAj (y:Nat) (w:World) (h0:0<y) (h1:y<18446744073709551616):
 Calls Tryz.prog 263 #[.int .u64 y] w fun e w'=>e= .returned (.int .i64 ((64-Lib.bitLen y:Nat):Int))∧w=w':=by
 refine (Tryz.bits_LeadingZeros64 (y:Int) w (by omega) (by omega)).mono ?_
 rintro e w' ⟨rfl,rfl⟩
 refine ⟨?_,rfl⟩
 have:=(Dv.len_spec y h0 h1).2.1
 rw[Int.toNat_natCast,show (64:Int)-(Lib.bitLen y:Int)=((64-Lib.bitLen y:Nat):Int)by omega]
theorem zMf (a:Int) (m:Nat) (h:a % 18446744073709551616=m):IntKind.u64.wrap a=m:=by
 rw[IntKind.wrap_u64,h]
theorem zYg (U1 u1 D Y R:Nat) (h:U1*4294967296+u1=Y*D+R) (hR:R<18446744073709551616):
 IntKind.u64.wrap (IntKind.u64.wrap (IntKind.u64.wrap ((U1:Int)*4294967296)+u1)-IntKind.u64.wrap (D*Y))=(R:Int):=by
 have hc:(D:Int)*Y=((Y*D:Nat):Int):=by rw[Int.natCast_mul,Int.mul_comm]
 rw[hc]
 generalize Y*D=p at*
 simp only[IntKind.wrap_u64]
 omega
theorem zBo (a:Nat) (ha:a<18446744073709551616):bits BinOp.and IntKind.u64 (a:Int) 4294967295=((a % 4294967296:Nat):Int):=by
 have h:=u64_and_nat a 4294967295 ha (by omega)
 have e:((4294967295:Nat):Int)=4294967295:=rfl
 rw[e]at h
 rw[h]
 have h2:=Nat.and_two_pow_sub_one_eq_mod a 32
 rw[show (2:Nat)^32-1=4294967295 by decide,show (2:Nat)^32=4294967296 by decide]at h2
 rw[h2]
set_option maxHeartbeats 1000000 in
theorem zAw (lo y:Nat) (w:World) (h0:0<y) (h2:y<18446744073709551616) (h3:lo<18446744073709551616):
 Calls Tryz.prog 232 #[.int .u64 (0:Int),.int .u64 lo,.int .u64 y] w fun e w'=>e= .returned (.tuple #[.int .u64 ((lo/y:Nat):Int),.int .u64 ((lo % y:Nat):Int)])∧∃n,w'=w.drewN n:=by
 have hb0:((y:Int)==0)=false:=by simp;omega
 have hle:¬(y:Int)≤0:=by omega
 have hy:(1:Int)≤y:=by omega
 have hx:(0:Int)≤lo:=by omega
 have hd:IntKind.u64.wrap ((lo:Int)/y)=(lo:Int)/y:=by
  have h4:lo/y≤lo:=Nat.div_le_self _ _
  have h5:(lo:Int)/y=((lo/y:Nat):Int):=by rw[Int.natCast_ediv]
  rw[h5];exact IntWalk.u64_in _ ⟨Int.natCast_nonneg _,by generalize lo/y=z at*;omega⟩
 go_enter Tryz.func232,Tryz.ntmps232
 go_wp2
 go_quiet (fail)
 go_wp2
 go_ret2
 exact ⟨rfl,_,rfl⟩
theorem wN (U1 u1 v1 v0 Y:Nat) (hYp:0<Y) (hU:U1<Y) (hu:u1<4294967296) (hY:(Y:Int)=v1*4294967296+v0) (hv1:2147483648≤v1) (hv0:v0<4294967296):
 ∃D R q r:Nat,Y*D+R=U1*4294967296+u1∧R<Y∧((U1:Int)*4294967296+u1)/Y=D∧(D:Int)<4294967296∧(D:Int)≤q∧
  v1*q+r=U1∧r<v1∧(q:Int)≤4294967297∧(U1:Int)/v1=q:=by
 have d3:((U1:Int)*4294967296+u1)/Y=(((U1*4294967296+u1)/Y:Nat):Int):=by simp[Int.natCast_ediv,Int.natCast_add,Int.natCast_mul]
 have d4:=Dv.digit_lt U1 u1 Y (by omega) (by omega) (by omega)
 have d5:=Dv.first_ge U1 u1 v1 v0 Y hY (by omega) (by omega) (by omega) (by omega)
 have k3:=Dv.first_le U1 v1 v0 Y hY (by omega) (by omega) (by omega)
 have k4:(U1:Int)/v1=((U1/v1:Nat):Int):=by rw[Int.natCast_ediv]
 rw[d3]at d4 d5
 rw[k4]at k3 d5
 exact ⟨_,_,_,_,Nat.div_add_mod _ Y,Nat.mod_lt _ hYp,d3,d4,d5,Nat.div_add_mod U1 v1,Nat.mod_lt _ (by omega),k3,k4⟩
theorem div64_any (hi lo y:Nat) (w:World) (h1:hi<y) (h2:y<18446744073709551616) (h3:lo<18446744073709551616):
 Calls Tryz.prog 232 #[.int .u64 hi,.int .u64 lo,.int .u64 y] w fun e w'=>
  e= .returned (.tuple #[.int .u64 (((hi*18446744073709551616+lo)/y:Nat):Int),.int .u64 (((hi*18446744073709551616+lo) % y:Nat):Int)])∧∃n,w'=w.drewN n:=by
 by_cases h0:hi=0
 ·subst h0
  simpa using zAw lo y w (by omega) h2 h3
 ·obtain ⟨s,hs⟩:∃s,s=64-Lib.bitLen y:=⟨_,rfl⟩
  obtain ⟨n1,n2,n3,n4⟩:=Dv.norm y (by omega) h2 s hs
  have hlz:=ZAj y w (by omega) h2
  rw[←hs]at hlz
  have hP:=Nat.two_pow_pos s
  have hC:=Nat.two_pow_pos (64-s)
  obtain ⟨g1,g2,g3⟩:=Dv.halves hi lo y (2^s) (2^(64-s)) n4 hC hP h1 h3
  have hhi:hi*2^s<18446744073709551616:=Nat.lt_of_le_of_lt (Nat.le_add_right _ _) (Nat.lt_trans g2 n3)
  have hlc:lo/2^(64-s)<18446744073709551616:=Nat.lt_of_le_of_lt (Nat.div_le_self _ _) h3
  have e5:IntKind.u64.wrap ((lo:Int)*2^s)=((lo*2^s % 18446744073709551616:Nat):Int):=by
   refine zMf _ _ ?_
   simp[Int.natCast_emod,Int.natCast_mul,Int.natCast_pow]
  have e1:IntKind.u64.wrap ((y:Int)*2^s)=((y*2^s:Nat):Int):=by
   have:(y:Int)*2^s=((y*2^s:Nat):Int):=by simp[Int.natCast_mul,Int.natCast_pow]
   rw[this];exact IntWalk.u64_in _ (by omega)
  have e4:bits BinOp.or IntKind.u64 (IntKind.u64.wrap ((hi:Int)*2^s)) ((lo:Int)/2^(64-s))=((hi*2^s+lo/2^(64-s):Nat):Int):=by
   have a1:(hi:Int)*2^s=((hi*2^s:Nat):Int):=by simp[Int.natCast_mul,Int.natCast_pow]
   have a2:(lo:Int)/2^(64-s)=((lo/2^(64-s):Nat):Int):=by simp[Int.natCast_ediv,Int.natCast_pow]
   rw[a1,a2,IntWalk.u64_in _ ⟨Int.natCast_nonneg _,by generalize hi*2^s=z at*;omega⟩,u64_or_nat _ _ hhi hlc,Dv.or_disj _ _ _ g1]
  generalize hYe:y*2^s=Y at*
  generalize hU1e:hi*2^s+lo/2^(64-s)=U1 at*
  have hU0b:=Nat.mod_lt (lo*2^s) (show 18446744073709551616>0 by omega)
  generalize lo*2^s % 18446744073709551616=U0 at*
  clear hlc hhi g1 n4
  have hYp:0<Y:=by omega
  have y1:=Nat.div_add_mod Y 4294967296
  have y2:=Nat.mod_lt Y (show 4294967296>0 by omega)
  have hv1:2147483648≤Y/4294967296:=by omega
  have hv1b:Y/4294967296<4294967296:=by omega
  have e2:(Y:Int)/4294967296=((Y/4294967296:Nat):Int):=by omega
  have e3:=zBo Y n3
  have e6:(U0:Int)/4294967296=((U0/4294967296:Nat):Int):=by omega
  have e7:=zBo U0 hU0b
  have u1b:U0/4294967296<4294967296:=by omega
  have u0b:=Nat.mod_lt U0 (show 4294967296>0 by omega)
  have hN:(hi*18446744073709551616+lo)*2^s=(U1*4294967296+U0/4294967296)*4294967296+U0 % 4294967296:=by
   rw[←g3];omega
  generalize Y/4294967296=v1 at*
  generalize Y % 4294967296=v0 at*
  generalize U0/4294967296=u1 at*
  generalize hu0:U0 % 4294967296=u0 at*
  have hY:(Y:Int)=v1*4294967296+v0:=by omega
  obtain ⟨D1,R1,q,r,d1,d2,d3,d4,d5,k1,k2,k3,k4⟩:=wN U1 u1 v1 v0 Y hYp g2 u1b hY hv1 y2
  obtain ⟨D0,R0,q',r',c1,c2,c3,c4,c5,m1,m2,m3,m4⟩:=wN R1 u0 v1 v0 Y hYp d2 u0b hY hv1 y2
  have mulc:∀a b:Nat,(a:Int)*b=((b*a:Nat):Int):=fun a b=>by rw[Int.natCast_mul,Int.mul_comm]
  have e9:(U1:Int)-IntKind.u64.wrap (q*v1)=r:=by
   rw[mulc,IntWalk.u64_in _ ⟨Int.natCast_nonneg _,by generalize v1*q=z at*;omega⟩]
   generalize v1*q=z at*;omega
  have f9:(R1:Int)-IntKind.u64.wrap (q'*v1)=r':=by
   rw[mulc,IntWalk.u64_in _ ⟨Int.natCast_nonneg _,by generalize v1*q'=z at*;omega⟩]
   generalize v1*q'=z at*;omega
  have q1:(U1:Int)=q*v1+r:=by rw[mulc];generalize v1*q=z at*;omega
  have p1:(R1:Int)=q'*v1+r':=by rw[mulc];generalize v1*q'=z at*;omega
  have ht:=Dv.together' 4294967296 (hi*18446744073709551616+lo) y (2^s) Y U1 u1 u0 D1 D0 R1 R0 hYe.symm hP (by omega) hN d1.symm c1.symm c2
  have e11:=zYg U1 u1 D1 Y R1 d1.symm (by omega)
  have f11:=zYg R1 u0 D0 Y R0 c1.symm (by omega)
  refine (zEl hi lo y s Y v1 v0 U1 U0 u1 u0 q r D1 R1 q' r' D0 R0 w (by omega) h1 n1 n2 n3 hv1 hv1b y2 u1b u0b e1 e2 e3 e4 e5 e6 (by rw[e7]) k4 e9 d3 (by omega) e11 m4 f9 c3 (by omega) f11 hY q1 (by omega) k2 (by omega) p1 (by omega) m2 (by omega) hlz).mono ?_
  rintro e w' ⟨rfl,rfl⟩
  refine ⟨?_,0,rfl⟩
  obtain ⟨t1,t2⟩:=ht
  rw[←t1,←t2]
  simp[Int.natCast_ediv,Int.natCast_pow]
end Go.Proofs.YtlnnombljiecmaaGreatDoor
namespace Go.Gh
open Go Go.Proofs
open Go.IntKind (i64)
set_option maxRecDepth 1000000
set_option maxHeartbeats 2000000
set_option linter.unusedSimpArgs false
set_option linter.unusedVariables false
set_option linter.unnecessarySimpa false
set_option linter.unusedSectionVars false
variable [Dep]
open Go.RowKit
def Yz (n:Int):Int:=if n<0 then IntKind.u64.wrap (0-(IntKind.u64.wrap n))else IntKind.u64.wrap n
theorem zHx (n:Int):GC Tryz.prog 260 [iG n] (.d (.sc (.int .u64 (Yz n)))):=by
 refine zA Tryz.func260 ?_
 refine gE [0,2] ?_
 refine gE [0,2,4] ?_
 refine zB ?_ ?_<;>intro c1<;>try simp only[toN]at c1
 ·refine zF env true [] [0,2] ?_
  refine gT ?_
  rw[Yz,if_pos c1];rfl
 ·refine zF env true [] [2] ?_
  refine gT ?_
  rw[Yz,if_neg c1];rfl
theorem YS (x:Int):0<=IntKind.u64.wrap x/\IntKind.u64.wrap x<18446744073709551616:=by rw[IntKind.wrap_u64];omega
theorem vw (n:Int):0<=Yz n:=by
 unfold Yz;split
 ·exact (YS _).1
 ·exact (YS _).1
theorem zTb {n:Int} (h:¬n=0) (h1: -9223372036854775808<=n/\n<=9223372036854775807):0<Yz n:=by
 unfold Yz;split
 ·rw[IntKind.wrap_u64,IntKind.wrap_u64];omega
 ·rw[IntKind.wrap_u64];omega
def KK:Nat->Int->Int->Int
 |0,a,_=>a
 |n+1,a,b=>if b=0 then a else KK n b (a.tmod b)
def wh (a b:Int):Int:=KK (b.toNat+1) a b
theorem jO {a b:Int} (ha:0<=a) (hb:0<b):0<=a.tmod b/\a.tmod b<b:=by
 rw[Int.tmod_eq_emod_of_nonneg ha]
 exact ⟨Int.emod_nonneg _ (by omega),Int.emod_lt_of_pos _ hb⟩
theorem Ut:∀(n m:Nat) (a b:Int),0<=a->0<=b->b<n->b<m->KK n a b=KK m a b
 |0,_,_,_,_,h,h1,_=>by omega
 |_,0,_,_,_,h,_,h1=>by omega
 |n+1,m+1,a,b,ha,hb,h1,h2=>by
  unfold KK
  split
  ·rfl
  ·have:=jO ha (b:=b) (by omega)
   exact Ut n m b _ hb this.1 (by omega) (by omega)
theorem zLc {a b:Int} (ha:0<=a) (hb:0<=b) (h:¬b=0):wh a b=wh b (a.tmod b):=by
 have:=jO ha (b:=b) (by omega)
 rw[wh,KK,if_neg h]
 exact Ut _ _ b _ hb this.1 (by omega) (by omega)
theorem zAg:∀(n:Nat) (a b:Int),0<=a->0<=b->(0<a∨0<b)->b<n->0<KK n a b
 |0,_,_,_,_,_,h=>by omega
 |n+1,a,b,ha,hb,h,h1=>by
  unfold KK
  split
  ·omega
  ·have:=jO ha (b:=b) (by omega)
   exact zAg n b _ hb this.1 (.inl (by omega)) (by omega)
theorem zQo {a b:Int} (ha:0<=a) (hb:0<=b) (h:0<b):wh a b≠0:=by
 have:=zAg (b.toNat+1) a b ha hb (.inr h) (by omega)
 unfold wh;omega
theorem zWo (a b:Int) (ha:0<=a) (hb:0<=b):GC Tryz.prog 261 [.d (.sc (.int .u64 a)),.d (.sc (.int .u64 b))] (.d (.sc (.int .u64 (wh a b)))):=by
 refine zA Tryz.func261 ?_
 refine gE [0,1,4] ?_
 refine zG (α:=Int×Int) (fun x=>0<=x.1/\0<=x.2/\wh a b=wh x.1 x.2) (fun x=>[(0,.d (.sc (.int .u64 x.1))),(1,.d (.sc (.int .u64 x.2)))]) (fun _=>[]) (fun x=>x.2.toNat) (a,b) ⟨ha,hb,rfl⟩ ?_ (hp:=by simp only[zC];repeat' first|exact trivial|exact rfl|apply And.intro)
 rintro ⟨p,q⟩ ⟨hp,hq,he⟩
 dsimp only at*
 refine gE [0,1,4,6] ?_
 refine zT ?_ ?_<;>intro c1<;>try simp only[toN]at c1
 ·refine zF env true [] [0,1,4] ?_ (hp:=by simp only[zC];first|assumption|exact ⟨c1,trivial⟩|(simp;omega))
  refine zD ((q,p.tmod q)) ?_ (hp:=by simp only[zC];repeat' first|exact trivial|exact rfl|apply And.intro) (hm:=by have:=jO hp (b:=q) (by omega);dsimp only;omega)
  have:=jO hp (b:=q) (by omega)
  exact ⟨hq,this.1,he.trans (zLc hp hq c1)⟩
 ·refine gE [4] ?_
  refine gT ?_
  rw[he,show q=0 by omega,wh,KK,if_pos rfl];rfl
structure Wid where
 hi:Int
 lo:Int
deriving DecidableEq
instance :Inhabited Wid:=⟨⟨0,0⟩⟩
abbrev wdG (x:Wid):G:= .agg [.d (.sc (.int .u64 x.hi)),.d (.sc (.int .u64 x.lo))]
def uE (neg:Bool) (a:Wid) (b:Wid):Rto×Int:=if (bif (bif (bif decide (0<a.hi)then true else decide (0<b.hi))then true else decide (1152921504606846976<a.lo))then true else decide (1152921504606846976<b.lo))=true then (⟨0,0⟩,3)else if neg=true then (⟨i64.wrap (0-(i64.wrap a.lo)),i64.wrap b.lo⟩,0)else (⟨i64.wrap a.lo,i64.wrap b.lo⟩,0)
theorem zQn (neg:Bool) (a:Wid) (b:Wid):GC Tryz.prog 262 [bG neg,wdG a,wdG b] (.tup [rqG ((uE neg a b).1),iG ((uE neg a b).2)]):=by
 refine zA Tryz.func262 ?_
 refine gE [0,4,5,6,7] ?_
 refine gE [0,4,5,6,7,26] ?_
 refine zE ?_ ?_<;>intro c1<;>try simp only[bb,toN]at c1
 ·refine gE [0,4,5,6,7] ?_
  refine gT ?_
  rw[uE,if_pos (by (try simp only[bb,toN]);exact c1)];rfl
 ·refine zF env true [] [0,5,6,7,8] ?_
  refine gE [5,6,7,8,31] ?_
  refine zE ?_ ?_<;>intro c2<;>try simp only[bb,toN]at c2
  ·refine zF env true [] [5,6,7,8] ?_
   refine zF env true [] [6,7] ?_
   refine gT ?_
   rw[uE,iN (by (try simp only[bb,toN]);exact c1),if_pos (by (try simp only[bb,toN]);exact c2)];rfl
  ·refine zF env true [] [6,7] ?_
   refine gT ?_
   rw[uE,iN (by (try simp only[bb,toN]);exact c1),iN (by (try simp only[bb,toN]);exact c2)];rfl
def wH (n:Int) (d:Int):Rto×Int:=if d=0 then (⟨0,0⟩,1)else ((uE (!(decide (n<0)==decide (d<0))) (⟨0,IntKind.u64.wrap ((Yz n).tdiv (wh (Yz n) (Yz d)))⟩:Wid) (⟨0,IntKind.u64.wrap ((Yz d).tdiv (wh (Yz n) (Yz d)))⟩:Wid)).1,(uE (!(decide (n<0)==decide (d<0))) (⟨0,IntKind.u64.wrap ((Yz n).tdiv (wh (Yz n) (Yz d)))⟩:Wid) (⟨0,IntKind.u64.wrap ((Yz d).tdiv (wh (Yz n) (Yz d)))⟩:Wid)).2)
theorem Vn (n:Int) (d:Int) (hd:yY d):GC Tryz.prog 230 [iG n,iG d] (.tup [rqG ((wH n d).1),iG ((wH n d).2)]):=by
 refine zA Tryz.func230 ?_
 refine gE [0,1,4,5] ?_
 refine gE [0,1,4,5,10] ?_
 refine zB ?_ ?_<;>intro c1<;>try simp only[toN]at c1
 ·refine gE [0,1,4,5] ?_
  refine gT ?_
  rw[wH,if_pos c1];rfl
 ·refine gR [.call (zHx n),.call (zHx d)] [0,1,4,5,6,7] ?_
  refine gR [.call (zWo (Yz n) (Yz d) (by first|assumption|exact vw _) (by first|assumption|exact vw _))] [0,1,4,5,6,7,8] ?_
  have hg:=zQo (vw n) (vw d) (zTb c1 hd)
  refine zF env true [.call (zQn (!(decide (n<0)==decide (d<0))) (⟨0,IntKind.u64.wrap ((Yz n).tdiv (wh (Yz n) (Yz d)))⟩:Wid) (⟨0,IntKind.u64.wrap ((Yz d).tdiv (wh (Yz n) (Yz d)))⟩:Wid))] [4,5] ?_ (hp:=by simp only[zC];exact ⟨hg,hg,zI.refl _⟩)
  refine gT ?_
  rw[wH,if_neg c1];rfl
def UM (n:Int) (top:Int):Bool:=(bif decide (0<=n)then decide (n<=top)else false)
theorem wq (n:Int) (top:Int):GC Tryz.prog 227 [iG n,iG top] (bG (UM n top)):=by
 refine zA Tryz.func227 ?_
 refine gE [0,1,4] ?_
 refine gE [4] ?_
 refine gT ?_
 rw[UM];rfl
def qY (x y:Int):Int×Int:=(x*y/18446744073709551616,x*y % 18446744073709551616)
def zEk (hi lo y:Int):Int×Int:=((hi*18446744073709551616+lo)/y,(hi*18446744073709551616+lo) % y)
theorem zGo (x y:Int) (hx:0<=x/\x<18446744073709551616) (hy:0<=y/\y<18446744073709551616):GC Tryz.prog 231 [.d (.sc (.int .u64 x)),.d (.sc (.int .u64 y))] (.tup [.d (.sc (.int .u64 (qY x y).1)),.d (.sc (.int .u64 (qY x y).2))]):=by
 refine Uu Tryz.func231 rfl rfl rfl rfl fun w=> ?_
 obtain ⟨a,rfl⟩:=Int.eq_ofNat_of_zero_le hx.1
 obtain ⟨b,rfl⟩:=Int.eq_ofNat_of_zero_le hy.1
 refine (Go.Proofs.Tryz.bits_Mul64 a b (by omega) (by omega) w).mono ?_
 rintro e w' ⟨rfl,rfl⟩
 refine ⟨?_,Below.refl _ _⟩
 simp[qY,Int.natCast_ediv,Int.natCast_emod,Int.natCast_mul]
theorem zHh (hi lo y:Int) (h1:0<=hi/\hi<y) (h2:y<18446744073709551616) (h3:0<=lo/\lo<18446744073709551616):GC Tryz.prog 232 [.d (.sc (.int .u64 hi)),.d (.sc (.int .u64 lo)),.d (.sc (.int .u64 y))] (.tup [.d (.sc (.int .u64 (zEk hi lo y).1)),.d (.sc (.int .u64 (zEk hi lo y).2))]):=by
 refine Uu Tryz.func232 rfl rfl rfl rfl fun w=> ?_
 obtain ⟨a,rfl⟩:=Int.eq_ofNat_of_zero_le h1.1
 obtain ⟨b,rfl⟩:=Int.eq_ofNat_of_zero_le h3.1
 obtain ⟨c,rfl⟩:=Int.eq_ofNat_of_zero_le (show 0<=y by omega)
 refine (Go.Proofs.YtlnnombljiecmaaGreatDoor.div64_any a b c w (by omega) (by omega) (by omega)).mono ?_
 rintro e w' ⟨rfl,n,rfl⟩
 refine ⟨?_,below_drewN (Below.refl _ _) n⟩
 simp[zEk,Int.natCast_ediv,Int.natCast_emod,Int.natCast_mul,Int.natCast_add]
theorem zOt {x y:Int} (hx:0<=x/\x<18446744073709551616) (hy:0<=y/\y<18446744073709551616):0<=(qY x y).1/\0<=(qY x y).2/\(qY x y).2<18446744073709551616/\(∀z,y<=z->0<z->(qY x y).1<z):=by
 have h0:0<=x*y:=Int.mul_nonneg hx.1 hy.1
 refine ⟨?_,?_,?_,fun z hz h1=> ?_⟩
 ·simp only[qY];omega
 ·simp only[qY];omega
 ·simp only[qY];omega
 ·simp only[qY]
  refine Int.ediv_lt_of_lt_mul (by decide) ?_
  have a1:x*y<=x*z:=Int.mul_le_mul_of_nonneg_left hz hx.1
  have a2:x*z<18446744073709551616*z:=Int.mul_lt_mul_of_pos_right hx.2 h1
  have a3:18446744073709551616*z=z*18446744073709551616:=Int.mul_comm _ _
  omega
def vR (a:Int) (b:Int) (c:Int):Int×Int×Bool:=if (IntKind.u64.wrap c)<=((qY (IntKind.u64.wrap a) (IntKind.u64.wrap b)).1)then (0,0,false)else if 1099511627776<((zEk ((qY (IntKind.u64.wrap a) (IntKind.u64.wrap b)).1) ((qY (IntKind.u64.wrap a) (IntKind.u64.wrap b)).2) (IntKind.u64.wrap c)).1)then (0,0,false)else (i64.wrap ((zEk ((qY (IntKind.u64.wrap a) (IntKind.u64.wrap b)).1) ((qY (IntKind.u64.wrap a) (IntKind.u64.wrap b)).2) (IntKind.u64.wrap c)).1),i64.wrap ((zEk ((qY (IntKind.u64.wrap a) (IntKind.u64.wrap b)).1) ((qY (IntKind.u64.wrap a) (IntKind.u64.wrap b)).2) (IntKind.u64.wrap c)).2),true)
theorem zNz (a:Int) (b:Int) (c:Int):GC Tryz.prog 228 [iG a,iG b,iG c] (.tup [iG ((vR a b c).1),iG ((vR a b c).2.1),bG ((vR a b c).2.2)]):=by
 refine zA Tryz.func228 ?_
 refine gE [0,1,2,6,7,8] ?_
 obtain ⟨m1,m2,m3,_⟩:=zOt (YS a) (YS b)
 refine zF env true [.call (zGo (IntKind.u64.wrap a) (IntKind.u64.wrap b) (by first|assumption|exact YS _) (by first|assumption|exact YS _))] [2,6,7,8,9,10] ?_
 refine zF env true [] [2,6,7,8,9,10,24] ?_
 refine zB ?_ ?_<;>intro c1<;>try simp only[toN]at c1
 ·refine gE [2,6,7,8,9,10] ?_
  refine gT ?_
  rw[vR,if_pos c1];rfl
 ·refine zF env true [.call (zHh ((qY (IntKind.u64.wrap a) (IntKind.u64.wrap b)).1) ((qY (IntKind.u64.wrap a) (IntKind.u64.wrap b)).2) (IntKind.u64.wrap c) (by first|assumption|(constructor<;>omega)) (by first|omega|exact (YS _).2) (by first|assumption|(constructor<;>omega)))] [6,7,8,11,12] ?_
  refine gE [6,7,8,11,12,34] ?_
  refine zB ?_ ?_<;>intro c2<;>try simp only[toN]at c2
  ·refine gE [6,7,8,11,12] ?_
   refine gT ?_
   rw[vR,if_neg c1,if_pos c2];rfl
  ·refine zF env true [] [6,7,8] ?_
   refine gT ?_
   rw[vR,if_neg c1,if_neg c2];rfl
def zDx (sum:Int) (rate:Int) (fr:Int) (till:Int) (basis:Int):Int×Int:=if (bif (bif (bif (bif (bif (!(UM sum 1099511627776))then true else (!(UM rate 1000)))then true else (!(UM fr 100000)))then true else (!(UM till 100000)))then true else decide (till<fr))then true else (bif (!decide (basis=360))then (!decide (basis=365))else false))=true then (0,1)else if (!(vR sum (i64.wrap (rate*(i64.wrap (till-fr)))) (i64.wrap (1000*basis))).2.2)=true then (0,3)else ((vR sum (i64.wrap (rate*(i64.wrap (till-fr)))) (i64.wrap (1000*basis))).1,0)
theorem zVy (sum:Int) (rate:Int) (fr:Int) (till:Int) (basis:Int):GC Tryz.prog 196 [iG sum,iG rate,iG fr,iG till,iG basis] (.tup [iG ((zDx sum rate fr till basis).1),iG ((zDx sum rate fr till basis).2)]):=by
 refine zA Tryz.func196 ?_
 refine gE [0,1,2,3,4,10,11] ?_
 refine gR [.call (wq sum 1099511627776),.call (wq rate 1000),.call (wq fr 100000),.call (wq till 100000)] [0,1,2,3,4,10,11,45] ?_
 refine zE ?_ ?_<;>intro c1<;>try simp only[bb,toN]at c1
 ·refine gE [0,1,2,3,4,10,11] ?_
  refine gT ?_
  rw[zDx,if_pos (by (try simp only[bb,toN]);exact c1)];rfl
 ·refine zF env true [.call (zNz sum (i64.wrap (rate*(i64.wrap (till-fr)))) (i64.wrap (1000*basis)))] [10,11,12,14] ?_
  refine gE [10,11,12,60] ?_
  refine zE ?_ ?_<;>intro c2<;>try simp only[bb,toN]at c2
  ·refine gE [10,11,12] ?_
   refine gT ?_
   rw[zDx,iN (by (try simp only[bb,toN]);exact c1),if_pos (by (try simp only[bb,toN]);exact c2)];rfl
  ·refine gE [10,11] ?_
   refine gT ?_
   rw[zDx,iN (by (try simp only[bb,toN]);exact c1),iN (by (try simp only[bb,toN]);exact c2)];rfl
def Wy (l:List Int) (k:Int):List Int:=if k∈l then l else l++ [k]
def zMx (a:Act) (day:Int):Bool:=bif decide (a.kind=7)then decide (a.day<=day)else false
def wA (f:Fil) (day:Int):List Int:=f.acts.foldl (fun l a=>if zMx a day=true then Wy l a.at_ else l) []
def jD (k:Int):Value×Value:=(.int .i64 k,.bool true)
theorem Wr (k:Int):∀l:List Int,Xj (.int .i64 k) (.bool true) (l.map jD)=some ((Wy l k).map jD):=by
 intro l
 induction l with
 |nil=>rfl
 |cons a l ih=>
  show (match some (decide (k=a))with|some true=>_|some false=>_|none=>_)=_
  by_cases e:k=a
  ·subst e
   rw[decide_eq_true rfl]
   simp[Wy,jD]
  ·rw[decide_eq_false e]
   show (match Xj (.int .i64 k) (.bool true) (l.map jD)with|some l'=>some (jD a::l')|none=>none)=_
   rw[ih]
   simp only[Wy,List.mem_cons,e,false_or]
   split<;>rfl
theorem zOw (k:Int):∀l:List Int,Xk (.int .i64 k) (l.map jD)=some (if k∈l then some (.bool true)else none):=by
 intro l
 induction l with
 |nil=>rfl
 |cons a l ih=>
  show (match some (decide (k=a))with|some true=>_|some false=>_|none=>_)=_
  by_cases e:k=a
  ·subst e
   rw[decide_eq_true rfl]
   simp[jD]
  ·rw[decide_eq_false e]
   show Xk (.int .i64 k) (l.map jD)=_
   rw[ih]
   simp[e]
theorem Xs (k:Int) (l:List Int):zGr (.int .i64 k) (l.map jD) (.bool false) (.bool (decide (k∈l))) (decide (k∈l)):=by
 by_cases h:k∈l
 ·exact .inl ⟨decide_eq_true h,by rw[zOw,if_pos h,decide_eq_true h]⟩
 ·exact .inr ⟨decide_eq_false h,by rw[decide_eq_false h],by rw[zOw,if_neg h]⟩
theorem yI {α β:Type} [Inhabited α] (g:β->α->β) (z:β) (l:List α) (k:Nat) (hk:k<l.length):(l.take (k+1)).foldl g z=g ((l.take k).foldl g z) (l.getD k default):=by
 rw[List.take_succ_eq_append_getElem hk,List.foldl_append]
 simp[List.getD_eq_getElem?_getD,List.getElem?_eq_getElem hk]
theorem UT (f:Fil) (day:Int) (hF:FitFi f):GM Tryz.prog 80 [fiG f,iG day] [] (.mp 0) [some (.mp ((wA f day).map jD))]:=by
 have g3:=hF.acts
 refine ZO Tryz.func80 ?_
 refine gE [1,2] ?_
 refine zv 0 ?_
 refine gE [1,2,5] ?_
 refine gE [1,5,10,11,12] ?_
 refine zG (α:=List Int×Nat) (fun x=>x.2<=f.acts.length/\x.1=(f.acts.take x.2).foldl (fun l a=>if zMx a day=true then Wy l a.at_ else l) []) (fun x=>[(12,iG x.2)]) (fun x=>[(1,some (.mp (x.1.map jD)))]) (fun x=>f.acts.length-x.2) ([],0) ⟨Nat.zero_le _,rfl⟩ ?_ (hp:=by (try simp only[zC]);repeat' first|exact trivial|exact rfl|apply And.intro)
 rintro ⟨L,k⟩ ⟨hk,hL⟩
 dsimp only at*
 refine gE [1,5,10,11,12,13] ?_
 refine zB (fun c1=> ?_) (fun c1=> ?_)
 ·refine gP [] [1,5,7,10,11,12] ?_
  refine gE [1,5,7,10,11,12,24] ?_
  refine zE (fun c2=> ?_) (fun c2=> ?_)
  ·refine gR [.mp ((Wy L (f.acts.getD k default).at_).map jD)] [1,5,10,11,12] ?_ (hp:=by simp only[zC];first|exact Wr _ _|exact ⟨Wr _ _,trivial⟩)
   refine gP [] [1,5,10,11,12] ?_
   refine zD (Wy L (f.acts.getD k default).at_,k+1) ⟨by dsimp only;omega,?_⟩ (hp:=by (try simp only[zC]);repeat' first|exact trivial|exact rfl|apply And.intro) (hm:=by dsimp only;omega)
   rw[yI _ _ _ _ (by omega),<-hL]
   exact (if_pos c2).symm
  ·refine gP [] [1,5,10,11,12] ?_
   refine zD (L,k+1) ⟨by dsimp only;omega,?_⟩ (hp:=by (try simp only[zC]);repeat' first|exact trivial|exact rfl|apply And.intro) (hm:=by dsimp only;omega)
   rw[yI _ _ _ _ (by omega),<-hL]
   exact (if_neg (by rw[show zMx (f.acts.getD k default) day=false from c2];decide)).symm
 ·have e:k=f.acts.length:=by omega
  subst e
  rw[List.take_length]at hL
  refine gE [4] ?_
  refine KH env [.mp 0] (hp:= ?_)
  simp only[zC]
  first|exact ⟨by rw[hL];rfl,trivial⟩|(rw[hL];rfl)
def KR (f:Fil) (part day:Int) (k:Nat):Bool:=bif bif bif decide ((f.signs.getD k default).kind=2)then decide ((f.signs.getD k default).part=part)else false then decide ((f.signs.getD k default).day<=day)else false then !decide ((k:Int)∈wA f day)else false
def jv (f:Fil) (part day:Int):List Nat:=(List.range f.signs.length).filter (KR f part day)
theorem zIs {p:Nat->Bool} {n k:Nat} (hk:k<n) (h:p k=true):∃rest,(List.range k).filter p++k::rest=(List.range n).filter p/\(List.range (k+1)).filter p=(List.range k).filter p++ [k]:=by
 obtain ⟨m,rfl⟩:∃m,n=k+1+m:=⟨n-(k+1),by omega⟩
 have e1:(List.range (k+1)).filter p=(List.range k).filter p++ [k]:=by rw[List.range_succ,List.filter_append];simp[h]
 refine ⟨((List.range m).map (k+1+·)).filter p,?_,e1⟩
 rw[List.range_add,List.filter_append,e1];simp
theorem zIt {p:Nat->Bool} {k:Nat} (h:p k=false):(List.range (k+1)).filter p=(List.range k).filter p:=by rw[List.range_succ,List.filter_append];simp[h]
theorem zXa (f:Fil) (part day:Int) (hF:FitFi f):XN Tryz.prog 79 [.ep (fiC f),.ep [.sc (.int .i64 day)],.ep [.sc (.int .i64 part)]] (fun k:Nat=>[iG k,sgG (f.signs.getD k default)]) (jv f part day):=by
 have g1:=hF.signs
 refine JR Tryz.func79 fun C hg hN=> ?_
 refine (yF (c':=_) (K':=_) (n:=1000) (K:=[]) rfl ?_:GYK C _ (zMc _) _ [] _ _).gy
 refine zc env false [.callm [] (UT f day hF)] [0,1,2,3,5] ?_ (hp:=(by simp only[zC,bb,toN,loI,hiI];repeat' first|exact trivial|exact zI.refl _|exact zH.refl _|exact rfl|omega|apply And.intro|intro _))
 refine zc env false [] [0,1,2,3,5,12,13,14] ?_
 refine XO (β:=List Nat×Nat) (fun x=>x.2<=f.signs.length/\x.1=(List.range x.2).filter (KR f part day)) (fun x=>[(14,iG x.2)]) (fun _=>[]) (fun x=>(true,x.1)) (fun x=>f.signs.length-x.2) ([],0) ⟨Nat.zero_le _,rfl⟩ ?_
 rintro ⟨pre,k⟩ ⟨ha,he⟩
 dsimp only at*
 refine zc env false [] [0,1,2,3,5,12,13,14,15] ?_
 refine VC (fun c1=> ?_) (fun c1=> ?_)
 ·have hk:k<f.signs.length:=by omega
  refine zc env false [] [0,1,2,3,5,6,7,12,13,14] ?_ (hp:=(by simp only[zC,bb,toN,loI,hiI];repeat' first|exact trivial|exact zI.refl _|exact zH.refl _|exact rfl|omega|apply And.intro|intro _))
  cases ho:KR f part day k with
  |true=>
   obtain ⟨rest,hr,hr1⟩:=zIs hk ho
   refine wR ?_
   refine YQ env false 22 [.look (.bool (decide ((k:Int)∈wA f day))) (decide ((k:Int)∈wA f day))] ?_ (hp:=by simp only[zC,bb,toN];repeat' first|exact trivial|exact Xs _ _|apply And.intro|intro _|omega|(simp_all;done))
   refine vq 40 ho ?_
   refine YQ env false 3 [] ?_
   refine jx k rest (by rw[hN,he];exact hr) (by rw[hg]) fun b=> ?_
   refine YQ env false 2 [] ?_
   refine wQ [0,1,2,3,5,12,13,14,46] ?_
   refine UL (fun c2=> ?_) (fun c2=> ?_)
   ·cases b with
    |true=>cases c2
    |false=>exact zBt (.inr rfl)
   ·refine zc env false [] [0,1,2,3,5,12,13,14] ?_
    cases b with
    |false=>cases c2
    |true=>exact Qn (pre++ [k],k+1) ⟨hk,by dsimp only;rw[hr1,he]⟩
  |false=>
   refine wR ?_
   refine YQ env false 22 [.look (.bool (decide ((k:Int)∈wA f day))) (decide ((k:Int)∈wA f day))] ?_ (hp:=by simp only[zC,bb,toN];repeat' first|exact trivial|exact Xs _ _|apply And.intro|intro _|omega|(simp_all;done))
   refine vq 40 ho ?_
   refine YQ env false 6 [.no,.nu] ?_
   refine wQ [0,1,2,3,5,12,13,14,46] ?_
   refine UL (fun c2=> ?_) (fun c2=> ?_)
   ·cases c2
   ·refine zc env false [] [0,1,2,3,5,12,13,14] ?_
    exact Qn (pre,k+1) ⟨hk,by dsimp only;rw[zIt ho,he]⟩
 ·have e:k=f.signs.length:=by omega
  refine Wd (.inl ?_)
  rw[he,e];rfl
theorem zWz (f:Fil) (part day:Int):GC Tryz.prog 47 [fiG f,iG part,iG day] (.fn (.func 79) [] [.ep (fiC f),.ep [.sc (.int .i64 day)],.ep [.sc (.int .i64 part)]]):=by
 refine zA Tryz.func47 ?_
 refine gE [3,4,5] ?_
 refine zv 0 ?_
 refine zv 1 ?_
 refine zv 2 ?_
 refine gE [6] ?_
 refine gT ?_
 rfl
def qV (f:Fil) (sign day:Int):Bool:=bif bif decide (0<=sign)then decide (sign<f.signs.length)else false then decide (sign∈wA f day)else false
theorem zCd (f:Fil) (sign day:Int) (hF:FitFi f):GC Tryz.prog 182 [fiG f,iG sign,iG day] (bG (qV f sign day)):=by
 refine zA Tryz.func182 ?_
 refine gE [1,2,3] ?_
 refine vB ?_
 refine Zl env false 10 [] ?_
 cases hc:(bif decide (0<=sign)then decide (sign<f.signs.length)else false)with
 |true=>
  refine Zl env false 7 [.callm [] (UT f day hF),.look (.bool (decide (sign∈wA f day))) (decide (sign∈wA f day))] ?_ (hp:=by simp only[zC,bb,toN];repeat' first|exact trivial|exact zI.refl _|exact zH.refl _|exact Xs _ _|apply And.intro|intro _|omega|(simp_all;done))
  refine jb [6] ?_
  refine gT ?_
  rw[qV,hc];rfl
 |false=>
  refine Zl env false 4 [.no] ?_
  refine zQd (bG false) ?_
  refine Zl env false 2 [] ?_
  refine jb [6] ?_
  refine gT ?_
  rw[qV,hc];rfl
def ZM (f:Fil) (first:Int) (was:Bool) (c:Chn) (i:Nat):Chn:=
 ⟨c.signs++ [(i:Int)],(f.signs.getD i default).to_,c.broken,decide ((f.signs.getD i default).to_= -1),Wk c.agent (f.signs.getD i default).flags,if (bif was then decide (first<(f.signs.getD i default).day)else false)=true then c.late++ [(i:Int)]else c.late⟩
def vF (f:Fil) (c:Chn) (i:Nat):Bool:=bif !c.bearer then !decide ((f.signs.getD i default).who=c.holder)else false
def yN (f:Fil) (first:Int) (was:Bool):List Nat->Chn->Chn
 | [],c=>c
 |i::l,c=>if vF f c i=true then {c with broken:=i} else yN f first was l (ZM f first was c i)
def ZK (f:Fil):Chn:=⟨[],f.bill.payee,-1,decide (f.bill.payee= -1),0,[]⟩
def jg (f:Fil) (part day:Int):Chn:=yN f (zR f day).1 (zR f day).2 (jv f part day) (ZK f)
theorem zIf (f:Fil) (first:Int) (was:Bool):∀(l:List Nat) (c:Chn),(l.foldl (ZM f first was) c).signs.length=c.signs.length+l.length/\(l.foldl (ZM f first was) c).late.length<=c.late.length+l.length:=by
 intro l
 induction l with
 |nil=>intro c;simp
 |cons a l ih=>
  intro c
  obtain ⟨h1,h2⟩:=ih (ZM f first was c a)
  have h3:(ZM f first was c a).signs.length=c.signs.length+1:=by simp[ZM]
  have h4:(ZM f first was c a).late.length<=c.late.length+1:=by
   show (if _ then _ else _:List Int).length<=_
   split<;>simp
  simp only[List.foldl_cons,List.length_cons]
  omega
theorem uN (f:Fil) (part day:Int):(jv f part day).length<=f.signs.length:=by
 have:=List.length_filter_le (KR f part day) (List.range f.signs.length)
 simpa [jv]using this
theorem zHg {f:Fil} {part day:Int} {k:Nat} (h:k∈jv f part day):k<f.signs.length:=by
 simpa using (List.mem_filter.1 h).1
theorem zBe (f:Fil) (part day:Int) (hF:FitFi f):GC Tryz.prog 19 [fiG f,iG part,iG day] (chG (jg f part day)):=by
 have g1:=hF.signs
 have g3:=hF.acts
 refine zA Tryz.func19 ?_
 refine gE [1,2,3,6] ?_
 refine gE [1,2,3,6,7] ?_
 refine gR [.call (zXc f day (by omega))] [1,2,3,6,7,8,9] ?_
 refine gR [.call (zWz f part day)] [6,7,8,9,29] ?_
 refine qb 2 0 3 1 (default:Int) inC ?_
 refine qb 2 5 3 1 (default:Int) inC ?_
 have hlen:=uN f part day
 refine vA 5 7 (fun k:Nat=>[iG k,sgG (f.signs.getD k default)]) (jv f part day) (fun pre=>[(1,some (.box [.d (.sc (.slice none 0 0)),iG 0,iG 0,bG false,iG 0,.d (.sc (.slice none 0 0))])),(2,some (.box [.sl 5 1 0 (pre.foldl (ZM f (zR f day).1 (zR f day).2) (ZK f)).signs.length,iG (pre.foldl (ZM f (zR f day).1 (zR f day).2) (ZK f)).holder,iG (pre.foldl (ZM f (zR f day).1 (zR f day).2) (ZK f)).broken,bG (pre.foldl (ZM f (zR f day).1 (zR f day).2) (ZK f)).bearer,iG (pre.foldl (ZM f (zR f day).1 (zR f day).2) (ZK f)).agent,.sl 6 1 0 (pre.foldl (ZM f (zR f day).1 (zR f day).2) (ZK f)).late.length])),(3,some (.box [iG (zR f day).1])),(4,some (.box [bG (zR f day).2])),(5,some (.row 3 1 default inC (pre.foldl (ZM f (zR f day).1 (zR f day).2) (ZK f)).signs 0)),(6,some (.row 3 1 default inC (pre.foldl (ZM f (zR f day).1 (zR f day).2) (ZK f)).late 0))]) (fun pre=>∀rest,pre++rest=jv f part day->jg f part day=yN f (zR f day).1 (zR f day).2 rest (pre.foldl (ZM f (zR f day).1 (zR f day).2) (ZK f))) (zXa f part day hF) (fun rest h=>by subst h;rfl) ?_ ?_
 ·rintro pre k rest he hI
  have hk:k<f.signs.length:=zHg (part:=part) (day:=day) (by rw[<-he];simp)
  have hI1:=hI _ he
  have hl:=zIf f (zR f day).1 (zR f day).2 pre (ZK f)
  have hpl:pre.length+1<=(jv f part day).length:=by rw[<-he];simp
  obtain ⟨c,hc⟩:∃c,c=pre.foldl (ZM f (zR f day).1 (zR f day).2) (ZK f):=⟨_,rfl⟩
  rw[<-hc]at hI1 hl⊢
  simp only[show (ZK f).signs.length=0 from rfl,show (ZK f).late.length=0 from rfl]at hl
  have hfold:(pre++ [k]).foldl (ZM f (zR f day).1 (zR f day).2) (ZK f)=ZM f (zR f day).1 (zR f day).2 c k:=by rw[List.foldl_append,<-hc];rfl
  have hnext:vF f c k=false->∀rest',(pre++ [k])++rest'=jv f part day->jg f part day=yN f (zR f day).1 (zR f day).2 rest' (ZM f (zR f day).1 (zR f day).2 c k):=fun c1 rest' h=>by
   have h2:=hI (k::rest') (by rw[<-h];simp)
   rw[<-hc,yN,if_neg (by rw[c1];decide)]at h2
   exact h2
  have z1:(ZM f (zR f day).1 (zR f day).2 c k).signs=c.signs++ [(k:Int)]:=rfl
  have z2:(ZM f (zR f day).1 (zR f day).2 c k).holder=(f.signs.getD k default).to_:=rfl
  have z3:(ZM f (zR f day).1 (zR f day).2 c k).broken=c.broken:=rfl
  have z4:(ZM f (zR f day).1 (zR f day).2 c k).bearer=decide ((f.signs.getD k default).to_= -1):=rfl
  have z5:(ZM f (zR f day).1 (zR f day).2 c k).agent=Wk c.agent (f.signs.getD k default).flags:=rfl
  have z6:(ZM f (zR f day).1 (zR f day).2 c k).late=if (bif (zR f day).2 then decide ((zR f day).1<(f.signs.getD k default).day)else false)=true then c.late++ [(k:Int)]else c.late:=rfl
  rw[hfold]
  generalize ZM f (zR f day).1 (zR f day).2 c k=z at z1 z2 z3 z4 z5 z6 hnext⊢
  refine gE [6,7,8,9,10,31] ?_
  refine gE [6,7,8,9,10,11] ?_
  refine zEb ?_
  refine gE [6,7,8,9,10,11,41] ?_
  refine zE (fun c1=> ?_) (fun c1=> ?_)
  ·refine gE [6,7] ?_
   refine zQm ?_
   refine gE [6,7] ?_
   refine gT ?_
   rw[hI1,yN,if_pos (show vF f c k=true from c1)];rfl
  ·refine gU [.el default inC [(k:Int)],.el default inC (c.signs++ [(k:Int)])] [6,7,8,9,10,11] ?_
   refine gR [.call (zIe c.agent (f.signs.getD k default).flags)] [6,7,8,9,10,11] ?_
   refine gE [6,7,8,9,10,11,69] ?_
   refine zE (fun c2=> ?_) (fun c2=> ?_)
   ·refine gU [.el default inC [(k:Int)],.el default inC (c.late++ [(k:Int)])] [6,7] ?_
    rw[if_pos c2]at z6
    exact uD (hnext c1) (hps:=by simp only[zC,z1,z2,z3,z4,z5,z6];repeat' first|exact trivial|exact rfl|(simp;done)|apply And.intro)
   ·rw[if_neg (by rw[c2];decide)]at z6
    exact uD (hnext c1) (hps:=by simp only[zC,z1,z2,z3,z4,z5,z6];repeat' first|exact trivial|exact rfl|(simp;done)|apply And.intro)
 ·intro hI
  have hI1:=hI [] (by simp)
  refine gE [6,7] ?_
  refine gT ?_
  rw[hI1];rfl
def jJ (v:Bvw) (sign:Int) (jb_3_3_1:Int):Efc:=if (bif decide (((v.f.signs.getD sign.toNat default).kind)=1)then true else decide (((v.f.signs.getD sign.toNat default).kind)=4))=true then ⟨sign,(v.f.signs.getD sign.toNat default).kind,(v.f.signs.getD sign.toNat default).who,jb_3_3_1,(qO v sign).1,mnI ((qO v sign).2) ((v.f.signs.getD sign.toNat default).sum),(bif (!decide (((v.f.signs.getD sign.toNat default).kind)=1))then decide ((yO .i64 ((v.f.signs.getD sign.toNat default).flags) 1)=0)else false)⟩else ⟨sign,(v.f.signs.getD sign.toNat default).kind,(v.f.signs.getD sign.toNat default).who,jb_3_3_1,(qO v sign).1,(qO v sign).2,(bif (!decide (((v.f.signs.getD sign.toNat default).kind)=1))then decide ((yO .i64 ((v.f.signs.getD sign.toNat default).flags) 1)=0)else false)⟩
def qQ (v:Bvw) (sign:Int):Efc:=if (!(qV v.f sign v.day))=true then jJ v sign (vG [v.form,(yD v 1 sign),(yD v 2 sign)])else jJ v sign 0
theorem zHn (v:Bvw) (sign:Int) (hR:RR v.r) (hF:FitFi v.f) (hs:0<=sign/\sign<v.f.signs.length):GC Tryz.prog 142 [bvG v,iG sign] (efG (qQ v sign)):=by
 have hr:=hR.right.fit
 refine zA Tryz.func142 ?_
 refine gE [1,2,4] ?_
 refine gE [1,2,4,5] ?_
 refine gE [1,2,4,5,6] ?_
 refine gR [.call (zCd v.f sign v.day (by first|assumption|exact FitFi.at_ (by assumption) _))] [1,2,4,5,6,34] ?_
 refine yV (α:=Int) (fun x=>qQ v sign=jJ v sign x) (fun x=>⟨[(1,iG sign),(2,.ptr 0 0 0 0),(4,.ptr 1 0 0 0),(5,.ptr 2 0 0 0),(6,.ptr 3 0 0 0)],[(0,some (.box [.d (.row default ze v.r.currencies),.d (.row default ctC v.r.cities),.d (.row default inC v.r.groups),.d (.row default fmC v.r.firms),.d (.row default odC v.r.orders),.d (.row default usC v.r.usances),.d (.row default rtC v.r.rates),.d (.row default htC v.r.halts),iG v.forum,iG v.day,iG v.f.bill.drawer,iG v.f.bill.drawee,iG v.f.bill.payee,iG v.f.bill.sum,iG v.f.bill.cur,iG v.f.bill.ten.kind,iG v.f.bill.ten.n,iG v.f.bill.ten.unit,iG v.f.bill.day,iG v.f.bill.city,iG v.f.bill.pay,iG v.f.bill.need,iG v.f.bill.rate,iG v.f.bill.flags,iG v.f.bill.parts,.d (.row default sgC v.f.signs),.d (.row default alC v.f.alters),.d (.row default acC v.f.acts),.d (.row default fcC v.f.facts),iG v.form,iG v.due])),(1,some (.box [iG 0,iG 0,iG 0,iG 0,iG 0,iG 0,bG false])),(2,some (.box [iG ((v.f.signs.getD sign.toNat default).kind),iG ((v.f.signs.getD sign.toNat default).part),iG ((v.f.signs.getD sign.toNat default).who),iG ((v.f.signs.getD sign.toNat default).for_),iG ((v.f.signs.getD sign.toNat default).to_),iG ((v.f.signs.getD sign.toNat default).sum),iG ((v.f.signs.getD sign.toNat default).day),iG ((v.f.signs.getD sign.toNat default).city),iG ((v.f.signs.getD sign.toNat default).flags)])),(3,some (.box [iG sign,iG ((v.f.signs.getD sign.toNat default).kind),iG ((v.f.signs.getD sign.toNat default).who),iG x,iG 0,iG 0,bG (bif (!decide (((v.f.signs.getD sign.toNat default).kind)=1))then decide ((yO .i64 ((v.f.signs.getD sign.toNat default).flags) 1)=0)else false)]))],4⟩) ?_ ?_
 ·rintro jb_3_3_1 hjc1
  refine gR [.call (zSf v sign hR hF)] [4,5,6] ?_
  refine gE [4,5,6,61] ?_
  refine zE ?_ ?_<;>intro c1<;>try simp only[bb,toN]at c1
  ·refine gE [4,6] ?_
   refine gE [4] ?_
   refine gT ?_
   rw[hjc1,jJ,if_pos (show (bif decide (((v.f.signs.getD sign.toNat default).kind)=1)then true else decide (((v.f.signs.getD sign.toNat default).kind)=4))=true by (try simp only[bb,toN]);exact c1)];rfl
  ·refine gE [4] ?_
   refine gT ?_
   rw[hjc1,jJ,if_neg (show ¬((bif decide (((v.f.signs.getD sign.toNat default).kind)=1)then true else decide (((v.f.signs.getD sign.toNat default).kind)=4))=true)by rw[Bool.not_eq_true];(try simp only[bb,toN]);exact c1)];rfl
 refine zE ?_ ?_<;>intro c2<;>try simp only[bb,toN]at c2
 ·refine gR [.call (uZ v 1 sign hR hF),.call (uZ v 2 sign hR hF),.el default inC [v.form,(yD v 1 sign),(yD v 2 sign)],.call (zBi [v.form,(yD v 1 sign),(yD v 2 sign)] (by first|omega|(simp;done)|decide))] [1,2,4,5,6] ?_
  refine za ((vG [v.form,(yD v 1 sign),(yD v 2 sign)])) ?_ (hp:=by simp[zC]<;>rfl)
  exact by rw[qQ,if_pos (show (!(qV v.f sign v.day))=true by (try simp only[bb,toN]);exact c2)]
 ·refine za (0) ?_ (hp:=by simp[zC]<;>rfl)
  exact by rw[qQ,if_neg (show ¬((!(qV v.f sign v.day))=true)by rw[Bool.not_eq_true];(try simp only[bb,toN]);exact c2)]
def yt (r:Rlm) (forum:Int) (f:Fil) (day:Int) (a10_1:List Efc) (k1:Nat):List Efc:=if k1<(((ZL r forum f day).f).signs).length then yt r forum f day (a10_1++ [(qQ (ZL r forum f day) (k1:Int))]) (k1+1)else a10_1
termination_by (((ZL r forum f day).f).signs).length-k1
def ZF (r:Rlm) (forum:Int) (f:Fil) (day:Int):List Efc:=yt r forum f day [] 0
theorem zSj (r:Rlm) (forum:Int) (f:Fil) (day:Int) (hR:RR r) (hF:FitFi f):GC Tryz.prog 97 [rlG r,iG forum,fiG f,iG day] (.d (.row default efC (ZF r forum f day))):=by
 have hr:=hR.right.fit
 have h1:=hr.orders
 have h2:=hr.cities
 have h3:=hr.firms
 have hF2:=hF.at_ day
 have g1:(ZL r forum f day).f.signs.length<=1000:=hF2.signs
 refine zA Tryz.func97 ?_
 refine gE [1,3,4,6,8] ?_
 refine gR [.call (zBf r forum f day hR (by first|assumption|exact FitFi.at_ (by assumption) _|exact FitFi.nof (by assumption)|exact FitFi.nof (FitFi.at_ (by assumption) _)))] [8,9] ?_
 refine gE [8,9,10] ?_
 refine gE [8,9,10,20,21] ?_
 refine yc 10 226 7 (default:Efc) efC (by rfl) (by rfl) ?_
 refine zG (α:=List Efc×Nat) (fun x=>x.2<=(((ZL r forum f day).f).signs).length/\yt r forum f day [] 0=yt r forum f day x.1 x.2/\x.1.length<=x.2) (fun x=>[(10,.sl 3 7 0 x.1.length),(21,iG x.2)]) (fun x=>[(3,some (.row 226 7 default efC x.1 0))]) (fun x=>(((ZL r forum f day).f).signs).length-x.2) ([],0) ⟨by (try simp only[]);omega,rfl,by first|omega|(simp;done)|(simp only[List.length_append,List.length_cons,List.length_nil,List.length_set,List.length_replicate];omega)⟩ ?_ (hp:=by simp[zC]<;>rfl)
 rintro ⟨a10_1,k1⟩ ⟨hi1,he,hl_a10_1⟩
 dsimp only at*
 refine gE [8,9,10,20,21,22] ?_
 refine zB ?_ ?_<;>intro c1<;>try simp only[toN]at c1
 ·refine gE [8,9,10,11,20,21] ?_
  refine gU [.call (zHn (ZL r forum f day) (k1:Int) (by first|exact hR) (by first|exact hF|exact hF2) (by first|assumption|omega)),.el default efC ([(qQ (ZL r forum f day) (k1:Int))]:List Efc),.el default efC (a10_1++ [(qQ (ZL r forum f day) (k1:Int))])] [8,9,10,20,21] ?_
  refine gE [8,9,10,20,21] ?_
  refine zD ((a10_1++ [(qQ (ZL r forum f day) (k1:Int))],k1+1)) ?_ (hp:=by simp[zC]<;>rfl) (hm:=by dsimp only;omega)
  refine ⟨by (try simp only[]);omega,he.trans ?_,by first|omega|(simp;done)|(simp only[List.length_append,List.length_cons,List.length_nil,List.length_set,List.length_replicate];omega)⟩
  rw[yt,if_pos (by omega)]
  try rfl
 ·refine gE [8] ?_
  refine gT ?_
  rw[ZF,he,yt,if_neg (by omega)];rfl
def zX (r:Rlm) (forum:Int) (f:Fil) (sign:Int) (day:Int):Efc×Bool:=if (bif decide (sign<0)then true else decide (((((ZL r forum f day).f).signs).length:Int)<=sign))=true then (⟨0,0,0,0,0,0,false⟩,false)else ((qQ (ZL r forum f day) sign),true)
theorem zSk (r:Rlm) (forum:Int) (f:Fil) (sign:Int) (day:Int) (hR:RR r) (hF:FitFi f):GC Tryz.prog 152 [rlG r,iG forum,fiG f,iG sign,iG day] (.tup [efG ((zX r forum f sign day).1),bG ((zX r forum f sign day).2)]):=by
 have hr:=hR.right.fit
 have h1:=hr.orders
 have h2:=hr.cities
 have h3:=hr.firms
 have hF2:=hF.at_ day
 have g1:(ZL r forum f day).f.signs.length<=1000:=hF2.signs
 refine zA Tryz.func152 ?_
 refine gE [1,3,4,5,7,10,11] ?_
 refine gR [.call (zBf r forum f day hR (by first|assumption|exact FitFi.at_ (by assumption) _|exact FitFi.nof (by assumption)|exact FitFi.nof (FitFi.at_ (by assumption) _)))] [3,10,11,12] ?_
 refine gE [3,10,11,12,27] ?_
 refine zE ?_ ?_<;>intro c1<;>try simp only[bb,toN]at c1
 ·refine gE [3,10,11,12] ?_
  refine gT ?_
  rw[zX,if_pos (by (try simp only[bb,toN]);exact c1)];rfl
 ·refine gR [.call (zHn (ZL r forum f day) sign (by first|exact hR) (by first|exact hF|exact hF2) (by first|assumption|omega))] [10,11] ?_
  refine gT ?_
  rw[zX,iN (by (try simp only[bb,toN]);exact c1)];rfl
def Qy (r:Rlm) (forum:Int) (f:Fil) (sign:Int) (day:Int):Kpt:=if (bif decide (sign<0)then true else decide (((((zk r forum f sign day).f).signs).length:Int)<=sign))=true then ⟨0,0,0,0⟩else if ((zk r forum f sign day).due)=(-1)then ⟨(YV (zk r forum f sign day)),2,2,(UJ [(YV (zk r forum f sign day)),2,2])⟩else ⟨(YV (zk r forum f sign day)),(ym (zN (zk r forum f sign day) 8) (Qu (zk r forum f sign day))),(ym (zN (zk r forum f sign day) 11) (Qx (zk r forum f sign day))),(UJ [(YV (zk r forum f sign day)),(ym (zN (zk r forum f sign day) 8) (Qu (zk r forum f sign day))),(ym (zN (zk r forum f sign day) 11) (Qx (zk r forum f sign day)))])⟩
theorem zGv (r:Rlm) (forum:Int) (f:Fil) (sign:Int) (day:Int) (hR:RR r) (hF:FitFi f) (hp:0<=f.bill.pay/\f.bill.pay<r.cities.length):GC Tryz.prog 151 [rlG r,iG forum,fiG f,iG sign,iG day] (kpG (Qy r forum f sign day)):=by
 have hr:=hR.right.fit
 have h1:=hr.orders
 have h2:=hr.cities
 have h3:=hr.firms
 have hF2:=hF.at_ day
 have hp2:0<=(zk r forum f sign day).f.bill.pay/\(zk r forum f sign day).f.bill.pay<r.cities.length:=by show 0<=(atV f day).bill.pay/\(atV f day).bill.pay<_;rw[yd];exact hp
 have g1:(zk r forum f sign day).f.signs.length<=1000:=hF2.signs
 refine zA Tryz.func151 ?_
 refine gE [1,3,4,5,7,10] ?_
 refine gR [.call (zGq r forum f sign day hR (by first|assumption|exact FitFi.at_ (by assumption) _|exact FitFi.nof (by assumption)|exact FitFi.nof (FitFi.at_ (by assumption) _)))] [3,10,11] ?_
 refine gE [10,11,28] ?_
 refine zE ?_ ?_<;>intro c1<;>try simp only[bb,toN]at c1
 ·refine gE [10,11] ?_
  refine gT ?_
  rw[Qy,if_pos (by (try simp only[bb,toN]);exact c1)];rfl
 ·refine gE [10,11,12] ?_
  refine gR [.call (zUl (zk r forum f sign day) (by first|exact hR) (by first|exact hF2|exact hF) (by first|exact hp2|exact hp))] [10,11,12] ?_
  refine gE [10,11,12,37] ?_
  refine zT ?_ ?_<;>intro c2<;>try simp only[toN]at c2
  ·refine gR [.call (QI (zk r forum f sign day) 8 (by first|exact hR) (by first|exact hF2|exact hF)),.call (zUj (zk r forum f sign day) (by first|exact hR) (by first|exact hF2|exact hF) (by first|exact hp2|exact hp)),.call (UR (zN (zk r forum f sign day) 8) (Qu (zk r forum f sign day)))] [10,11,12] ?_
   refine gR [.call (QI (zk r forum f sign day) 11 (by first|exact hR) (by first|exact hF2|exact hF)),.call (zUw (zk r forum f sign day) (by first|exact hR) (by first|exact hF2|exact hF) (by first|exact hp2|exact hp) (by first|assumption|omega)),.call (UR (zN (zk r forum f sign day) 11) (Qx (zk r forum f sign day)))] [10,12] ?_
   refine gR [.el default inC [(YV (zk r forum f sign day)),(ym (zN (zk r forum f sign day) 8) (Qu (zk r forum f sign day))),(ym (zN (zk r forum f sign day) 11) (Qx (zk r forum f sign day)))],.call (Jv [(YV (zk r forum f sign day)),(ym (zN (zk r forum f sign day) 8) (Qu (zk r forum f sign day))),(ym (zN (zk r forum f sign day) 11) (Qx (zk r forum f sign day)))] (by first|omega|(simp;done)|decide))] [10,12] ?_
   refine gE [10] ?_
   refine gT ?_
   rw[Qy,iN (by (try simp only[bb,toN]);exact c1),if_neg c2];rfl
  ·refine gR [.el default inC [(YV (zk r forum f sign day)),2,2],.call (Jv [(YV (zk r forum f sign day)),2,2] (by first|omega|(simp;done)|decide))] [10,12] ?_
   refine gE [10] ?_
   refine gT ?_
   rw[Qy,iN (by (try simp only[bb,toN]);exact c1),if_pos c2];rfl
open Go.RowKit Go.Sort
structure Ovw where
 all:Fil
 now:Fil
 day:Int
 lead:List Int
instance :Inhabited Ovw:=⟨⟨default,default,0,[]⟩⟩
abbrev ovG (x:Ovw):G:= .agg [iG x.all.bill.drawer,iG x.all.bill.drawee,iG x.all.bill.payee,iG x.all.bill.sum,iG x.all.bill.cur,iG x.all.bill.ten.kind,iG x.all.bill.ten.n,iG x.all.bill.ten.unit,iG x.all.bill.day,iG x.all.bill.city,iG x.all.bill.pay,iG x.all.bill.need,iG x.all.bill.rate,iG x.all.bill.flags,iG x.all.bill.parts,.d (.row default sgC x.all.signs),.d (.row default alC x.all.alters),.d (.row default acC x.all.acts),.d (.row default fcC x.all.facts),iG x.now.bill.drawer,iG x.now.bill.drawee,iG x.now.bill.payee,iG x.now.bill.sum,iG x.now.bill.cur,iG x.now.bill.ten.kind,iG x.now.bill.ten.n,iG x.now.bill.ten.unit,iG x.now.bill.day,iG x.now.bill.city,iG x.now.bill.pay,iG x.now.bill.need,iG x.now.bill.rate,iG x.now.bill.flags,iG x.now.bill.parts,.d (.row default sgC x.now.signs),.d (.row default alC x.now.alters),.d (.row default acC x.now.acts),.d (.row default fcC x.now.facts),iG x.day,.d (.row default inC x.lead)]
structure Crt where
 v:Ovw
 r:Rlm
 forum:Int
 due:Int
instance :Inhabited Crt:=⟨⟨default,default,0,0⟩⟩
def crtC (x:Crt):List D:=[.sc (.int .i64 x.v.all.bill.drawer),.sc (.int .i64 x.v.all.bill.drawee),.sc (.int .i64 x.v.all.bill.payee),.sc (.int .i64 x.v.all.bill.sum),.sc (.int .i64 x.v.all.bill.cur),.sc (.int .i64 x.v.all.bill.ten.kind),.sc (.int .i64 x.v.all.bill.ten.n),.sc (.int .i64 x.v.all.bill.ten.unit),.sc (.int .i64 x.v.all.bill.day),.sc (.int .i64 x.v.all.bill.city),.sc (.int .i64 x.v.all.bill.pay),.sc (.int .i64 x.v.all.bill.need),.sc (.int .i64 x.v.all.bill.rate),.sc (.int .i64 x.v.all.bill.flags),.sc (.int .i64 x.v.all.bill.parts),.row default sgC x.v.all.signs,.row default alC x.v.all.alters,.row default acC x.v.all.acts,.row default fcC x.v.all.facts,.sc (.int .i64 x.v.now.bill.drawer),.sc (.int .i64 x.v.now.bill.drawee),.sc (.int .i64 x.v.now.bill.payee),.sc (.int .i64 x.v.now.bill.sum),.sc (.int .i64 x.v.now.bill.cur),.sc (.int .i64 x.v.now.bill.ten.kind),.sc (.int .i64 x.v.now.bill.ten.n),.sc (.int .i64 x.v.now.bill.ten.unit),.sc (.int .i64 x.v.now.bill.day),.sc (.int .i64 x.v.now.bill.city),.sc (.int .i64 x.v.now.bill.pay),.sc (.int .i64 x.v.now.bill.need),.sc (.int .i64 x.v.now.bill.rate),.sc (.int .i64 x.v.now.bill.flags),.sc (.int .i64 x.v.now.bill.parts),.row default sgC x.v.now.signs,.row default alC x.v.now.alters,.row default acC x.v.now.acts,.row default fcC x.v.now.facts,.sc (.int .i64 x.v.day),.row default inC x.v.lead,.row default ze x.r.currencies,.row default ctC x.r.cities,.row default inC x.r.groups,.row default fmC x.r.firms,.row default odC x.r.orders,.row default usC x.r.usances,.row default rtC x.r.rates,.row default htC x.r.halts,.sc (.int .i64 x.forum),.sc (.int .i64 x.due)]
abbrev zXi (x:Crt):G:= .agg [iG x.v.all.bill.drawer,iG x.v.all.bill.drawee,iG x.v.all.bill.payee,iG x.v.all.bill.sum,iG x.v.all.bill.cur,iG x.v.all.bill.ten.kind,iG x.v.all.bill.ten.n,iG x.v.all.bill.ten.unit,iG x.v.all.bill.day,iG x.v.all.bill.city,iG x.v.all.bill.pay,iG x.v.all.bill.need,iG x.v.all.bill.rate,iG x.v.all.bill.flags,iG x.v.all.bill.parts,.d (.row default sgC x.v.all.signs),.d (.row default alC x.v.all.alters),.d (.row default acC x.v.all.acts),.d (.row default fcC x.v.all.facts),iG x.v.now.bill.drawer,iG x.v.now.bill.drawee,iG x.v.now.bill.payee,iG x.v.now.bill.sum,iG x.v.now.bill.cur,iG x.v.now.bill.ten.kind,iG x.v.now.bill.ten.n,iG x.v.now.bill.ten.unit,iG x.v.now.bill.day,iG x.v.now.bill.city,iG x.v.now.bill.pay,iG x.v.now.bill.need,iG x.v.now.bill.rate,iG x.v.now.bill.flags,iG x.v.now.bill.parts,.d (.row default sgC x.v.now.signs),.d (.row default alC x.v.now.alters),.d (.row default acC x.v.now.acts),.d (.row default fcC x.v.now.facts),iG x.v.day,.d (.row default inC x.v.lead),.d (.row default ze x.r.currencies),.d (.row default ctC x.r.cities),.d (.row default inC x.r.groups),.d (.row default fmC x.r.firms),.d (.row default odC x.r.orders),.d (.row default usC x.r.usances),.d (.row default rtC x.r.rates),.d (.row default htC x.r.halts),iG x.forum,iG x.due]
theorem Zr (zs:List Int):(Lib.compact zs).length<=zs.length:=by
 have:=List.length_filter_le (Lib.keeps zs.toArray) (List.range zs.length)
 simpa [Lib.compact,Lib.compactUpTo]using this
theorem zTl (ty:Nat) (zs:List Int) (h:zs.length<=1000):GM Tryz.prog 180 [.sl 0 1 0 zs.length] [.row ty 1 default inC zs 0] .junk [some (.row ty 1 default inC (zs.mergeSort fun x y=>decide (x<=y)) 0)]:=
 zQj (v:=fun _ _=> .tuple #[]) (ext:=[]) Tryz.func180 rfl rfl (by simp) (fun _ _ _ _ _ _ _=> .junk _) (fun _ _ _ _ _ _ _=> .junk _)
  (fun hz blk cap w h1 h2 h3=>(Tryz.slices_Sort_int blk 0 cap zs w h1 h2 (by omega)).mono fun e w' ⟨x,n,os,y⟩=>⟨x,n,os,by rw[List.append_nil];exact y⟩)
  (fun hz A cap w=>Tryz.slices_Sort_int_none A cap w)
theorem zEp (ty:Nat) (zs:List Int) (h:zs.length<=1000):GM Tryz.prog 181 [.sl 0 1 0 zs.length] [.row ty 1 default inC zs 0] (.sl 0 1 0 (Lib.compact zs).length) [some (.row ty 1 default inC (Lib.compact zs) 0)]:=
 zQj (v:=fun A c=> .slice A (Lib.compact zs).length c) (ext:=List.replicate (zs.length-(Lib.compact zs).length) 0) Tryz.func181 rfl rfl (by have:=Zr zs;simp;omega)
  (fun ν F w r k hk e=> .sl 0 1 0 _ _ _ (fun _=>⟨r,k,e,rfl,by have:=Zr zs;omega,rfl⟩) (fun _ _=> .inl ⟨r,k,e,rfl,rfl⟩) (by have:=Zr zs;omega))
  (fun hz ν F w A c h=>by
   have e:(Lib.compact zs).length=0:=by have:=Zr zs;rw[hz]at this⊢;simpa using this
   rw[e];exact .sl 0 1 0 0 A c (fun h=>absurd h (by decide)) (fun _ _=>h) (Nat.zero_le _))
  (fun hz blk cap w h1 h2 h3=>(Tryz.slices_Compact_int blk 0 cap zs w h1 (by omega) h3).mono fun e w' ⟨x,q,y⟩=>⟨x,q,#[],by rw[Sort.grow_empty];exact y⟩)
  (fun hz A cap w=>by
   have e:(Lib.compact zs).length=0:=by have:=Zr zs;rw[hz]at this⊢;simpa using this
   simp only[e];exact Tryz.slices_Compact_int_empty A cap w)
def Ko (g:Fil):List Int:=g.acts.foldl (fun l a=>if decide (a.kind=7)=true then Wy l a.at_ else l) []
def ldB (g:Fil) (k:Nat):Bool:=bif decide ((g.signs.getD k default).kind=2)then !decide ((k:Int)∈Ko g)else false
def ldR (g:Fil):List Int:=((List.range g.signs.length).filter (ldB g)).map fun k=>(g.signs.getD k default).part
def YH (g:Fil):List Int:=if (Lib.compact ((ldR g).mergeSort fun x y=>decide (x<=y))).length=0 then [0]else Lib.compact ((ldR g).mergeSort fun x y=>decide (x<=y))
def zj (f:Fil) (day:Int):Ovw:=⟨f,atV f day,day,YH (atV f day)⟩
theorem Xu (g:Fil):(ldR g).length<=g.signs.length:=by
 have:=List.length_filter_le (ldB g) (List.range g.signs.length)
 simpa [ldR]using this
theorem zOh (f:Fil) (day:Int) (hF:FitFi f):GC Tryz.prog 140 [fiG f,iG day] (ovG (zj f day)):=by
 have hF2:=hF.at_ day
 have g1:=hF2.signs
 have g3:=hF2.acts
 refine zA Tryz.func140 ?_
 refine gE [1,2,4] ?_
 refine gR [.call (Jc f day hF)] [4,5] ?_
 refine gE [4,5,6] ?_
 refine gE [4,5,6,20,21,22] ?_
 refine zG (α:=List Int×Nat) (fun x=>x.2<=(atV f day).acts.length/\x.1=((atV f day).acts.take x.2).foldl (fun l a=>if decide (a.kind=7)=true then Wy l a.at_ else l) []) (fun x=>[(22,iG x.2)]) (fun x=>[(3,some (.mp (x.1.map jD)))]) (fun x=>(atV f day).acts.length-x.2) ([],0) ⟨Nat.zero_le _,rfl⟩ ?_ (hp:=by (try simp only[zC]);repeat' first|exact trivial|exact rfl|omega|apply And.intro)
 rintro ⟨L,k⟩ ⟨hk,hL⟩
 dsimp only at*
 refine gE [4,5,6,20,21,22,23] ?_
 refine zB (fun c1=> ?_) (fun c1=> ?_)
 ·refine gP [] [4,5,6,8,20,21,22] ?_
  refine gE [4,5,6,8,20,21,22,28] ?_
  refine zB (fun c2=> ?_) (fun c2=> ?_)
  ·refine gR [.mp ((Wy L ((atV f day).acts.getD k default).at_).map jD)] [4,5,6,20,21,22] ?_ (hp:=by simp only[zC];first|exact Wr _ _|exact ⟨Wr _ _,trivial⟩)
   refine gP [] [4,5,6,20,21,22] ?_
   refine zD (Wy L ((atV f day).acts.getD k default).at_,k+1) ⟨by dsimp only;omega,?_⟩ (hp:=by (try simp only[zC]);repeat' first|exact trivial|exact rfl|omega|apply And.intro) (hm:=by dsimp only;omega)
   rw[yI _ _ _ _ (by omega),<-hL]
   exact (if_pos (decide_eq_true c2)).symm
  ·refine gP [] [4,5,6,20,21,22] ?_
   refine zD (L,k+1) ⟨by dsimp only;omega,?_⟩ (hp:=by (try simp only[zC]);repeat' first|exact trivial|exact rfl|omega|apply And.intro) (hm:=by dsimp only;omega)
   rw[yI _ _ _ _ (by omega),<-hL]
   exact (if_neg (by simpa using c2)).symm
 ·have e:k=(atV f day).acts.length:=by omega
  subst e
  rw[List.take_length]at hL
  obtain rfl:L=Ko (atV f day):=hL
  refine gE [4,5,6,35,36,37] ?_
  refine qb 2 39 3 1 (default:Int) inC ?_
  refine zG (α:=List Int×Nat) (fun x=>x.2<=(atV f day).signs.length/\x.1=((List.range x.2).filter (ldB (atV f day))).map fun k=>((atV f day).signs.getD k default).part) (fun x=>[(37,iG x.2)]) (fun x=>[(2,some (.box [iG f.bill.drawer,iG f.bill.drawee,iG f.bill.payee,iG f.bill.sum,iG f.bill.cur,iG f.bill.ten.kind,iG f.bill.ten.n,iG f.bill.ten.unit,iG f.bill.day,iG f.bill.city,iG f.bill.pay,iG f.bill.need,iG f.bill.rate,iG f.bill.flags,iG f.bill.parts,.d (.row default sgC f.signs),.d (.row default alC f.alters),.d (.row default acC f.acts),.d (.row default fcC f.facts),iG ((atV f day).bill.drawer),iG ((atV f day).bill.drawee),iG ((atV f day).bill.payee),iG ((atV f day).bill.sum),iG ((atV f day).bill.cur),iG ((atV f day).bill.ten.kind),iG ((atV f day).bill.ten.n),iG ((atV f day).bill.ten.unit),iG ((atV f day).bill.day),iG ((atV f day).bill.city),iG ((atV f day).bill.pay),iG ((atV f day).bill.need),iG ((atV f day).bill.rate),iG ((atV f day).bill.flags),iG ((atV f day).bill.parts),.d (.row default sgC ((atV f day).signs)),.d (.row default alC ((atV f day).alters)),.d (.row default acC ((atV f day).acts)),.d (.row default fcC ((atV f day).facts)),iG day,.sl 4 1 0 x.1.length])),(4,some (.row 3 1 default inC x.1 0))]) (fun x=>(atV f day).signs.length-x.2) ([],0) ⟨Nat.zero_le _,rfl⟩ ?_ (hp:=by (try simp only[zC]);repeat' first|exact trivial|exact rfl|omega|apply And.intro)
  rintro ⟨l,k⟩ ⟨hk,hl⟩
  dsimp only at*
  refine gE [4,5,6,35,36,37,38] ?_
  refine zB (fun c3=> ?_) (fun c3=> ?_)
  ·have hll:l.length<=k:=by
    rw[hl,List.length_map]
    have:=List.length_filter_le (ldB (atV f day)) (List.range k)
    simpa using this
   refine gP [] [4,5,6,9,10,35,36,37] ?_
   refine gR [.look (.bool (decide ((k:Int)∈Ko (atV f day)))) (decide ((k:Int)∈Ko (atV f day)))] [4,5,6,9,10,35,36,37,50] ?_ (hp:=by simp only[zC,bb,toN];repeat' first|exact trivial|exact Xs _ _|apply And.intro|intro _|omega|(simp_all;done))
   refine zE (fun c4=> ?_) (fun c4=> ?_)
   ·refine gU [.el default inC [((atV f day).signs.getD k default).part],.el default inC (l++ [((atV f day).signs.getD k default).part])] [4,5,6,35,36,37] ?_
    refine gP [] [4,5,6,35,36,37] ?_
    refine zD (l++ [((atV f day).signs.getD k default).part],k+1) ⟨by dsimp only;omega,?_⟩ (hp:=by (try simp only[zC]);repeat' first|exact trivial|exact rfl|(simp;done)|apply And.intro) (hm:=by dsimp only;omega)
    rw[List.range_succ,List.filter_append,List.map_append,<-hl,List.filter_cons_of_pos (by exact c4)];rfl
   ·refine gP [] [4,5,6,35,36,37] ?_
    refine zD (l,k+1) ⟨by dsimp only;omega,?_⟩ (hp:=by (try simp only[zC]);repeat' first|exact trivial|exact rfl|omega|apply And.intro) (hm:=by dsimp only;omega)
    rw[List.range_succ,List.filter_append,List.map_append,<-hl,List.filter_cons_of_neg (by rw[show ldB (atV f day) k=false from c4];decide)];simp
  ·have e:k=(atV f day).signs.length:=by omega
   subst e
   obtain rfl:l=ldR (atV f day):=hl
   have hln:=Xu (atV f day)
   obtain ⟨z,hz⟩:∃z,z=(ldR (atV f day)).mergeSort fun x y=>decide (x<=y):=⟨_,rfl⟩
   have hzl:z.length=(ldR (atV f day)).length:=by rw[hz];simp
   have hs:=zTl 3 (ldR (atV f day)) (by omega)
   rw[<-hz]at hs
   have hc:=zEp 3 z (by omega)
   have hcl:=Zr z
   have hlead:YH (atV f day)=if (Lib.compact z).length=0 then [0]else Lib.compact z:=by rw[YH,<-hz]
   generalize Lib.compact z=y at hc hlead hcl
   refine gR [.callm [4] hs] [4,5] ?_ (hp:=by simp only[zC];repeat' first|exact trivial|exact zI.refl _|exact zH.refl _|exact rfl|apply And.intro)
   refine gR [.callm [4] hc] [4,5] ?_ (hp:=by simp only[zC,hzl];repeat' first|exact trivial|exact zI.refl _|exact zH.refl _|exact rfl|apply And.intro)
   refine gE [4,5,69] ?_
   refine zB (fun c3=> ?_) (fun c3=> ?_)
   ·refine gU [.el default inC [0]] [4,5] ?_
    refine gE [4,5] ?_
    refine gT ?_
    rw[zj,hlead,if_pos (by omega)];rfl
   ·refine gE [4,5] ?_
    refine gT ?_
    rw[zj,hlead,if_neg (by omega)];rfl
def VS (x0:Fct) (kind:Int) (sign:Int):Bool:=(bif decide (x0.kind=kind)then decide (x0.at_=sign)else false)
theorem zNg (x0:Fct) (kind:Int) (sign:Int):GC Tryz.prog 222 [fcG x0,.ep [.sc (.int .i64 kind)],.ep [.sc (.int .i64 sign)]] (bG (VS x0 kind sign)):=by
 refine zA Tryz.func222 ?_
 refine gE [1,2,3,4] ?_
 refine gE [4] ?_
 refine gT ?_
 rw[VS];rfl
theorem Xz (l:List Fct) (hl:l.length<=9223372036854775807) (kind:Int) (sign:Int):GC Tryz.prog 221 [.d (.row default fcC l),.fn (.func 222) [] [.ep [.sc (.int .i64 kind)],.ep [.sc (.int .i64 sign)]]] (iG (zO (fun y=>VS y kind sign) l 0)):=by
 refine zA Tryz.func221 ?_
 refine gE [0,1,4] ?_
 refine gE [0,1,4,7,8] ?_
 refine zG (α:=Nat) (fun i=>i<=l.length/\zO (fun y=>VS y kind sign) l 0=zO (fun y=>VS y kind sign) (l.drop i) i) (fun i=>[(8,iG i)]) (fun _=>[]) (fun i=>l.length-i) 0 ⟨by omega,rfl⟩ ?_ (hp:=by simp[zC]<;>rfl)
 rintro i ⟨hi,he⟩
 refine gE [0,1,4,7,8,9] ?_
 refine zB ?_ ?_<;>intro c1<;>try simp only[toN]at c1
 ·refine gE [0,1,4,5,7,8] ?_
  refine gR [.call (zNg (l.getD i default) kind sign)] [0,1,4,5,7,8,16] ?_
  refine zE ?_ ?_<;>intro c2<;>try simp only[bb,toN]at c2
  ·refine gE [0,1,4,7,8] ?_
   refine gT ?_
   rw[he,YL (by omega),zO,if_pos (by exact c2)];rfl
  ·refine gE [0,1,4,7,8] ?_
   refine zD (i+1) ?_ (hp:=by simp[zC]<;>rfl)
   refine ⟨by omega,he.trans ?_⟩
   rw[YL (by omega),zO,if_neg (by rw[Bool.not_eq_true];exact c2)]
 ·refine gE [4] ?_
  refine gT ?_
  rw[he,jq (by omega)];rfl
def QQ (v:Ovw) (kind:Int) (sign:Int):Int:=if (zO (fun y=>VS y kind sign) v.now.facts 0)<0 then 2 else if ((v.now.facts.getD ((zO (fun y=>VS y kind sign) v.now.facts 0).toNat) default).n)=0 then 0 else 1
theorem Ku (v:Ovw) (kind:Int) (sign:Int) (hF:FitFi v.now):GC Tryz.prog 186 [ovG v,iG kind,iG sign] (iG (QQ v kind sign)):=by
 have g4:=hF.facts
 refine zA Tryz.func186 ?_
 refine gE [3,4,5,6] ?_
 refine zv 1 ?_
 refine zv 2 ?_
 refine gR [.call (Xz v.now.facts (by omega) kind sign)] [3,6,7] ?_
 refine gE [3,6,7,13] ?_
 refine zB ?_ ?_<;>intro c1<;>try simp only[toN]at c1
 ·refine gE [6] ?_
  refine gT ?_
  rw[QQ,if_pos c1];rfl
 ·have hi:=uJ (fun y=>VS y kind sign) v.now.facts 0
  refine gE [6,16] ?_
  refine zB ?_ ?_<;>intro c2<;>try simp only[toN]at c2
  ·refine gE [6] ?_
   refine gT ?_
   rw[QQ,if_neg c1,if_pos c2];rfl
  ·refine gE [6] ?_
   refine gT ?_
   rw[QQ,if_neg c1,if_neg c2];rfl
def YN (r:Rlm) (forum:Int) (f:Fil) (day:Int):Crt×Bool:=if (bif decide (forum<0)then true else decide ((r.orders.length:Int)<=forum))=true then (⟨⟨⟨⟨0,0,0,0,0,⟨0,0,0⟩,0,0,0,0,0,0,0⟩,[],[],[],[]⟩,⟨⟨0,0,0,0,0,⟨0,0,0⟩,0,0,0,0,0,0,0⟩,[],[],[],[]⟩,0,[]⟩,⟨[],[],[],[],[],[],[],[]⟩,0,0⟩,false)else (⟨(zj f day),r,forum,(ZI r forum f day)⟩,true)
theorem zTg (r:Rlm) (forum:Int) (f:Fil) (day:Int) (hR:RR r) (hF:FitFi f):GC Tryz.prog 96 [rlG r,iG forum,fiG f,iG day] (.tup [zXi ((YN r forum f day).1),bG ((YN r forum f day).2)]):=by
 have hr:=hR.right.fit
 have h1:=hr.orders
 have h2:=hr.cities
 have h3:=hr.firms
 refine zA Tryz.func96 ?_
 refine gE [1,3,4,6,8,9] ?_
 refine gE [1,3,4,6,8,9,18] ?_
 refine zE ?_ ?_<;>intro c1<;>try simp only[bb,toN]at c1
 ·refine gE [1,3,4,6,8,9] ?_
  refine Zf env ?_
  rw[YN,if_pos (by (try simp only[bb,toN]);exact c1)];exact Ent.tup ⟨Ent.agg ⟨Ent.refl _,Ent.refl _,Ent.refl _,Ent.refl _,Ent.refl _,Ent.refl _,Ent.refl _,Ent.refl _,Ent.refl _,Ent.refl _,Ent.refl _,Ent.refl _,Ent.refl _,Ent.refl _,Ent.refl _,Ent.nil,Ent.nil,Ent.nil,Ent.nil,Ent.refl _,Ent.refl _,Ent.refl _,Ent.refl _,Ent.refl _,Ent.refl _,Ent.refl _,Ent.refl _,Ent.refl _,Ent.refl _,Ent.refl _,Ent.refl _,Ent.refl _,Ent.refl _,Ent.refl _,Ent.nil,Ent.nil,Ent.nil,Ent.nil,Ent.refl _,Ent.nil,Ent.nil,Ent.nil,Ent.nil,Ent.nil,Ent.nil,Ent.nil,Ent.nil,Ent.nil,Ent.refl _,Ent.refl _,trivial⟩,Ent.refl _,trivial⟩
 ·refine gR [.call (zOh f day (by first|assumption|exact FitFi.at_ (by assumption) _)),.call (Wt r forum f day hR (by first|assumption|exact FitFi.at_ (by assumption) _|exact FitFi.nof (by assumption)|exact FitFi.nof (FitFi.at_ (by assumption) _)))] [8,9] ?_
  refine gT ?_
  rw[YN,iN (by (try simp only[bb,toN]);exact c1)];rfl
def zJ (v:Ovw) (part:Int):List Int:=(jg v.all part v.day).signs
theorem zKf (v:Ovw) (part:Int) (hA:FitFi v.all):GC Tryz.prog 98 [ovG v,iG part] (.d (.row default inC (zJ v part))):=by
 refine zA Tryz.func98 ?_
 refine gE [1,2,4] ?_
 refine gR [.call (zBe v.all part v.day (by first|assumption|exact FitFi.at_ (by assumption) _))] [4] ?_
 refine gT ?_
 rw[zJ];rfl
def JH (v:Ovw) (sign:Int):Int:=if (bif decide (sign=0)then true else (!(Qz v.lead ((v.now.signs.getD sign.toNat default).part))))=true then (v.lead.getD 0 default)else (v.now.signs.getD sign.toNat default).part
theorem zNy (v:Ovw) (sign:Int) (hF:FitFi v.now) (hs:0<=sign/\sign<v.now.signs.length) (hl:0<v.lead.length/\v.lead.length<=1001):GC Tryz.prog 146 [ovG v,iG sign] (iG (JH v sign)):=by
 have g1:=hF.signs
 refine zA Tryz.func146 ?_
 refine gE [1,2,4] ?_
 refine gE [1,2,4,5] ?_
 refine gR [.call ((fun l x h=>zl l h x) v.lead ((v.now.signs.getD sign.toNat default).part) (by first|omega|(simp;done)|decide))] [2,4,5,21] ?_
 refine zE ?_ ?_<;>intro c1<;>try simp only[bb,toN]at c1
 ·refine gE [4,5] ?_
  refine gT ?_
  rw[JH,if_pos (by (try simp only[bb,toN]);exact c1)];rfl
 ·refine gE [4] ?_
  refine gT ?_
  rw[JH,iN (by (try simp only[bb,toN]);exact c1)];rfl
def ut (a:Act):Bool:=(bif decide (a.kind=1)then true else decide (a.kind=3))
theorem zIg (a:Act):GC Tryz.prog 150 [acG a] (bG (ut a)):=by
 refine zA Tryz.func150 ?_
 refine gE [1,2] ?_
 refine gE [2] ?_
 refine gT ?_
 rw[ut];rfl
theorem UD (l:List Act) (hl:l.length<=9223372036854775807):GC Tryz.prog 189 [.d (.row default acC l),fG 150] (iG (zO (fun y=>ut y) l 0)):=by
 refine zA Tryz.func189 ?_
 refine gE [0,1,4] ?_
 refine gE [0,1,4,7,8] ?_
 refine zG (α:=Nat) (fun i=>i<=l.length/\zO (fun y=>ut y) l 0=zO (fun y=>ut y) (l.drop i) i) (fun i=>[(8,iG i)]) (fun _=>[]) (fun i=>l.length-i) 0 ⟨by omega,rfl⟩ ?_ (hp:=by simp[zC]<;>rfl)
 rintro i ⟨hi,he⟩
 refine gE [0,1,4,7,8,9] ?_
 refine zB ?_ ?_<;>intro c1<;>try simp only[toN]at c1
 ·refine gE [0,1,4,5,7,8] ?_
  refine gR [.call (zIg (l.getD i default))] [0,1,4,5,7,8,16] ?_
  refine zE ?_ ?_<;>intro c2<;>try simp only[bb,toN]at c2
  ·refine gE [0,1,4,7,8] ?_
   refine gT ?_
   rw[he,YL (by omega),zO,if_pos (by exact c2)];rfl
  ·refine gE [0,1,4,7,8] ?_
   refine zD (i+1) ?_ (hp:=by simp[zC]<;>rfl)
   refine ⟨by omega,he.trans ?_⟩
   rw[YL (by omega),zO,if_neg (by rw[Bool.not_eq_true];exact c2)]
 ·refine gE [4] ?_
  refine gT ?_
  rw[he,jq (by omega)];rfl
theorem UF (l:List Act) (hl:l.length<=9223372036854775807):GC Tryz.prog 149 [.d (.row default acC l),fG 150] (bG (l.any (fun y=>ut y))):=by
 refine zA Tryz.func149 ?_
 refine gE [0,1,4] ?_
 refine gR [.call (UD l hl)] [4] ?_
 refine gT ?_
 rw[<-qh];rfl
def JG (c:Crt) (link:Int) (last:Int):Int:=(zAu (XI (QQ c.v 0 link) (QQ c.v 2 link)) (Jz (Yf c.r c.forum 3 (⟨c.v.now,link,last,(-1),c.due,c.v.day⟩:Cas))))
theorem zNx (c:Crt) (link:Int) (last:Int) (hR:RR c.r) (hF:FitFi c.v.now):GC Tryz.prog 144 [zXi c,iG link,iG last] (iG (JG c link last)):=by
 have hr:=hR.right.fit
 refine zA Tryz.func144 ?_
 refine gE [1,2,3,6] ?_
 refine gE [1,3,6,7] ?_
 refine gR [.call (Ku c.v 0 link (by assumption)),.call (Ku c.v 2 link (by assumption)),.call (zXx (QQ c.v 0 link) (QQ c.v 2 link))] [3,6,7,8] ?_
 refine gR [.call (wn c.r c.forum 3 (⟨c.v.now,link,last,(-1),c.due,c.v.day⟩:Cas) hR (by first|assumption|exact FitFi.at_ (by assumption) _|exact FitFi.nof (by assumption)|exact FitFi.nof (FitFi.at_ (by assumption) _))),.call (Wh (Yf c.r c.forum 3 (⟨c.v.now,link,last,(-1),c.due,c.v.day⟩:Cas))),.call (zXb (XI (QQ c.v 0 link) (QQ c.v 2 link)) (Jz (Yf c.r c.forum 3 (⟨c.v.now,link,last,(-1),c.due,c.v.day⟩:Cas))))] [6] ?_
 refine gT ?_
 rw[JG];rfl
def Zj (g:Fil):Prop:=∀k:Nat,k<g.signs.length->((g.signs.getD k default).kind=3∨(g.signs.getD k default).kind=4)->0<=(g.signs.getD k default).for_/\(g.signs.getD k default).for_<(k:Int)
def qR (g:Fil):Nat->Int->Int
 |0,s=>s
 |n+1,s=>if (bif decide ((g.signs.getD s.toNat default).kind=3)then true else decide ((g.signs.getD s.toNat default).kind=4))=true then qR g n (g.signs.getD s.toNat default).for_ else s
def QG (g:Fil) (s:Int):Int:=qR g (s.toNat+1) s
theorem uc {g:Fil} (hB:Zj g):∀(n m:Nat) (s:Int),0<=s->s<g.signs.length->s<n->s<m->qR g n s=qR g m s/\0<=qR g n s/\qR g n s<=s:=by
 intro n
 induction n with
 |zero=>intro m s h0 _ h1 _;omega
 |succ n ih=>
  intro m s h0 hs h1 h2
  obtain ⟨m,rfl⟩:∃k,m=k+1:=⟨m-1,by omega⟩
  unfold qR
  split
  ·rename_i hk
   simp only[bb]at hk
   have:=hB s.toNat (by omega) hk
   obtain ⟨a,b,c⟩:=ih m (g.signs.getD s.toNat default).for_ this.1 (by omega) (by omega) (by omega)
   exact ⟨a,b,by omega⟩
  ·exact ⟨rfl,h0,Int.le_refl _⟩
theorem vH {g:Fil} (hB:Zj g) {s:Int} (h0:0<=s) (hs:s<g.signs.length):QG g s=if (bif decide ((g.signs.getD s.toNat default).kind=3)then true else decide ((g.signs.getD s.toNat default).kind=4))=true then QG g (g.signs.getD s.toNat default).for_ else s:=by
 rw[QG,qR]
 split
 ·rename_i hk
  simp only[bb]at hk
  have:=hB s.toNat (by omega) hk
  exact (uc hB _ _ _ this.1 (by omega) (by omega) (by omega)).1
 ·rfl
theorem zYa:∀(n:Nat) (v:Ovw) (s:Int),FitFi v.now->Zj v.now->0<=s->s<v.now.signs.length->s<n->GC Tryz.prog 147 [ovG v,iG s] (iG (QG v.now s)):=by
 intro n
 induction n with
 |zero=>intro v s _ _ h0 _ h;omega
 |succ n ih=>
  intro v s hF hB h0 hs hn
  have g1:=hF.signs
  refine zA Tryz.func147 ?_
  refine gE [1,2] ?_
  refine gP [] [1,2,5] ?_
  refine gE [1,2,5,19] ?_
  refine zE (fun c1=> ?_) (fun c1=> ?_)
  ·have hk:=c1
   simp only[bb]at hk
   have:=hB s.toNat (by omega) hk
   refine gR [.call (ih v (v.now.signs.getD s.toNat default).for_ hF hB this.1 (by omega) (by omega))] [4] ?_
   refine gT ?_
   rw[vH hB h0 hs,if_pos c1];rfl
  ·refine gE [4] ?_
   refine gT ?_
   rw[vH hB h0 hs,if_neg (by rw[c1];decide)];rfl
theorem zSo (v:Ovw) (s:Int) (hF:FitFi v.now) (hB:Zj v.now) (hs:0<=s/\s<v.now.signs.length):GC Tryz.prog 147 [ovG v,iG s] (iG (QG v.now s)):=zYa (s.toNat+1) v s hF hB hs.1 hs.2 (by omega)
def vi (v:Ovw) (by_:Int) (links l:List Int) (k:Nat):Bool:=
 if (v.now.signs.getD k default).kind=0 then true else if (v.now.signs.getD k default).kind=1 then true else if (v.now.signs.getD k default).kind=2 then (bif bif decide ((k:Int)<=by_)then decide (yO .i64 (v.now.signs.getD k default).flags 2=0)else false then Qz links k else false)else Qz l (v.now.signs.getD k default).for_
def qa (v:Ovw) (part by_:Int) (links:List Int):Nat->List Int
 |0=>[]
 |k+1=>if JH v k=part/\vi v by_ links (qa v part by_ links k) k=true then qa v part by_ links k++ [(k:Int)]else qa v part by_ links k
def Zc (v:Ovw) (part by_:Int) (links:List Int):List Int:=if (bif !decide (by_= -1)then !Qz links by_ else false)=true then []else qa v part by_ links v.now.signs.length
theorem Hm (v:Ovw) (part by_:Int) (links:List Int):∀k,(qa v part by_ links k).length<=k:=by
 intro k
 induction k with
 |zero=>exact Nat.le_refl _
 |succ k ih=>
  unfold qa
  split
  ·rw[List.length_append];simp only[List.length_cons,List.length_nil];omega
  ·omega
theorem ZAr (v:Ovw) (part by_:Int) (links:List Int) (hF:FitFi v.now) (hl:0<v.lead.length/\v.lead.length<=1001) (hk:links.length<=1000):GC Tryz.prog 100 [ovG v,iG part,iG by_,qX links] (qX (Zc v part by_ links)):=by
 have g1:=hF.signs
 refine zA Tryz.func100 ?_
 refine gE [1,2,3,4] ?_
 refine gE [1,2,3,4,9] ?_
 refine gR [.call (zl links (by omega) by_)] [1,2,3,4,9,20] ?_
 refine zE (fun c1=> ?_) (fun c1=> ?_)
 ·refine gE [8] ?_
  refine Zf env ?_
  rw[Zc,if_pos (by exact c1)];exact Ent.nil
 ·refine gE [1,2,3,4,9,23,24,25] ?_
  refine yc 9 3 1 (default:Int) inC (by rfl) (by rfl) ?_
  refine zG (α:=List Int×Nat×Nat) (fun x=>x.2.1<=v.now.signs.length/\x.1=qa v part by_ links x.2.1/\x.2.2<=x.1.length) (fun x=>[(25,iG x.2.1),(9,.sl 1 1 0 x.1.length)]) (fun x=>[(1,some (.row 3 1 default inC x.1 x.2.2))]) (fun x=>v.now.signs.length-x.2.1) ([],0,0) ⟨Nat.zero_le _,rfl,Nat.le_refl _⟩ ?_ (hp:=by (try simp only[zC]);repeat' first|exact trivial|exact rfl|apply And.intro)
  rintro ⟨l,k,fz⟩ ⟨hk2,hl,hfz⟩
  dsimp only at*
  have hll:l.length<=k:=hl▸Hm v part by_ links k
  refine gE [1,2,3,4,9,23,24,25,26] ?_
  refine zB (fun c2=> ?_) (fun c2=> ?_)
  ·refine gP [] [1,2,3,4,9,10,11,23,24,25] ?_
   refine gR [.call (zNy v (k:Int) hF (by omega) (by assumption))] [1,2,3,4,9,10,11,23,24,25,34] ?_
   refine zT (fun c3=> ?_) (fun c3=> ?_)
   ·refine gP [] [1,2,3,4,9,23,24,25] ?_
    exact zD (l,k+1,fz) ⟨by dsimp only;omega,by rw[qa,<-hl,if_neg (fun h=>c3 h.1)],by dsimp only;omega⟩ (hp:=by (try simp only[zC]);repeat' first|exact trivial|exact rfl|apply And.intro) (hm:=by dsimp only;omega)
   ·have hpt:JH v k=part:=c3
    refine gE [1,2,3,4,9,10,11,12,23,24,25] ?_
    refine gE [1,2,3,4,9,10,11,12,23,24,25,36] ?_
    refine gE [1,2,3,4,9,10,11,12,23,24,25,36,41] ?_
    refine zB (fun c4=> ?_) (fun c4=> ?_)
    ·refine zB (fun c5=> ?_) (fun c5=>absurd c4 c5)
     refine gE [1,2,3,4,9,10,11,12,23,24,25] ?_
     refine gE [1,2,3,4,9,10,23,24,25,60] ?_
     have hL:vi v by_ links l k=true:=by rw[vi,if_pos (show (v.now.signs.getD k default).kind=0 from c4)]
     refine zE (fun c7=> ?_) (fun c7=> ?_)
     ·refine gU [.el default inC [(k:Int)],.el default inC (l++ [(k:Int)])] [1,2,3,4,9,23,24,25] ?_
      refine gP [] [1,2,3,4,9,23,24,25] ?_
      exact zD (l++ [(k:Int)],k+1,fz) ⟨by dsimp only;omega,by rw[qa,<-hl,if_pos ⟨hpt,hL.trans c7⟩],by dsimp only;simp only[List.length_append];omega⟩ (hp:=by (try simp only[zC]);repeat' first|exact trivial|exact rfl|(simp;done)|apply And.intro) (hm:=by dsimp only;omega)
     ·refine gP [] [1,2,3,4,9,23,24,25] ?_
      exact zD (l,k+1,fz) ⟨by dsimp only;omega,by rw[qa,<-hl,if_neg (fun h=>absurd ((hL.symm.trans h.2).symm.trans c7) (by decide))],by dsimp only;omega⟩ (hp:=by (try simp only[zC]);repeat' first|exact trivial|exact rfl|apply And.intro) (hm:=by dsimp only;omega)
    ·refine gE [1,2,3,4,9,10,11,12,23,24,25,36,41] ?_
     refine zB (fun c5=> ?_) (fun c5=> ?_)
     ·refine gE [1,2,3,4,9,10,11,12,23,24,25] ?_
      refine gE [1,2,3,4,9,10,23,24,25,60] ?_
      have hL:vi v by_ links l k=true:=by rw[vi,if_neg (show ¬(v.now.signs.getD k default).kind=0 from c4),if_pos (show (v.now.signs.getD k default).kind=1 from c5)]
      refine zE (fun c7=> ?_) (fun c7=> ?_)
      ·refine gU [.el default inC [(k:Int)],.el default inC (l++ [(k:Int)])] [1,2,3,4,9,23,24,25] ?_
       refine gP [] [1,2,3,4,9,23,24,25] ?_
       exact zD (l++ [(k:Int)],k+1,fz) ⟨by dsimp only;omega,by rw[qa,<-hl,if_pos ⟨hpt,hL.trans c7⟩],by dsimp only;simp only[List.length_append];omega⟩ (hp:=by (try simp only[zC]);repeat' first|exact trivial|exact rfl|(simp;done)|apply And.intro) (hm:=by dsimp only;omega)
      ·refine gP [] [1,2,3,4,9,23,24,25] ?_
       exact zD (l,k+1,fz) ⟨by dsimp only;omega,by rw[qa,<-hl,if_neg (fun h=>absurd ((hL.symm.trans h.2).symm.trans c7) (by decide))],by dsimp only;omega⟩ (hp:=by (try simp only[zC]);repeat' first|exact trivial|exact rfl|apply And.intro) (hm:=by dsimp only;omega)
     ·refine gE [1,2,3,4,9,10,11,12,23,24,25,44] ?_
      refine zB (fun c6=> ?_) (fun c6=> ?_)
      ·refine gR [.call (zl links (by omega) (k:Int))] [1,2,3,4,9,10,11,12,23,24,25] ?_
       refine gE [1,2,3,4,9,10,23,24,25,60] ?_
       have hL:vi v by_ links l k=(bif bif decide ((k:Int)<=by_)then decide (yO .i64 (v.now.signs.getD k default).flags 2=0)else false then Qz links k else false):=by rw[vi,if_neg (show ¬(v.now.signs.getD k default).kind=0 from c4),if_neg (show ¬(v.now.signs.getD k default).kind=1 from c5),if_pos (show (v.now.signs.getD k default).kind=2 from c6)]
       refine zE (fun c7=> ?_) (fun c7=> ?_)
       ·refine gU [.el default inC [(k:Int)],.el default inC (l++ [(k:Int)])] [1,2,3,4,9,23,24,25] ?_
        refine gP [] [1,2,3,4,9,23,24,25] ?_
        exact zD (l++ [(k:Int)],k+1,fz) ⟨by dsimp only;omega,by rw[qa,<-hl,if_pos ⟨hpt,hL.trans c7⟩],by dsimp only;simp only[List.length_append];omega⟩ (hp:=by (try simp only[zC]);repeat' first|exact trivial|exact rfl|(simp;done)|apply And.intro) (hm:=by dsimp only;omega)
       ·refine gP [] [1,2,3,4,9,23,24,25] ?_
        exact zD (l,k+1,fz) ⟨by dsimp only;omega,by rw[qa,<-hl,if_neg (fun h=>absurd ((hL.symm.trans h.2).symm.trans c7) (by decide))],by dsimp only;omega⟩ (hp:=by (try simp only[zC]);repeat' first|exact trivial|exact rfl|apply And.intro) (hm:=by dsimp only;omega)
      ·refine gR [.call (zl l (by omega) (v.now.signs.getD k default).for_)] [1,2,3,4,9,10,11,12,23,24,25] ?_
       refine gE [1,2,3,4,9,10,23,24,25,60] ?_
       have hL:vi v by_ links l k=Qz l (v.now.signs.getD k default).for_:=by rw[vi,if_neg (show ¬(v.now.signs.getD k default).kind=0 from c4),if_neg (show ¬(v.now.signs.getD k default).kind=1 from c5),if_neg (show ¬(v.now.signs.getD k default).kind=2 from c6)]
       refine zE (fun c7=> ?_) (fun c7=> ?_)
       ·refine gU [.el default inC [(k:Int)],.el default inC (l++ [(k:Int)])] [1,2,3,4,9,23,24,25] ?_
        refine gP [] [1,2,3,4,9,23,24,25] ?_
        exact zD (l++ [(k:Int)],k+1,l.length) ⟨by dsimp only;omega,by rw[qa,<-hl,if_pos ⟨hpt,hL.trans c7⟩],by dsimp only;simp only[List.length_append];omega⟩ (hp:=by (try simp only[zC]);repeat' first|exact trivial|exact rfl|(simp;done)|apply And.intro) (hm:=by dsimp only;omega)
       ·refine gP [] [1,2,3,4,9,23,24,25] ?_
        exact zD (l,k+1,l.length) ⟨by dsimp only;omega,by rw[qa,<-hl,if_neg (fun h=>absurd ((hL.symm.trans h.2).symm.trans c7) (by decide))],by dsimp only;omega⟩ (hp:=by (try simp only[zC]);repeat' first|exact trivial|exact rfl|apply And.intro) (hm:=by dsimp only;omega)
  ·have e:k=v.now.signs.length:=by omega
   subst e
   refine gE [8] ?_
   refine gT ?_
   rw[Zc,if_neg (by rw[c1];decide),<-hl];rfl
def zKn (sum:Int) (rate:Int) (fr:Int) (till:Int):Int:=if ((zDx sum rate fr till 360).2)=3 then 1099511627776 else (zDx sum rate fr till 360).1
theorem zVz (sum:Int) (rate:Int) (fr:Int) (till:Int):GC Tryz.prog 153 [iG sum,iG rate,iG fr,iG till] (iG (zKn sum rate fr till)):=by
 refine zA Tryz.func153 ?_
 refine gE [0,1,2,3,8] ?_
 refine gR [.call (zVy sum rate fr till 360)] [8,9,10] ?_
 refine gE [8,9,20] ?_
 refine zB ?_ ?_<;>intro c1<;>try simp only[toN]at c1
 ·refine gE [8,9] ?_
  refine gT ?_
  rw[zKn,if_pos c1];rfl
 ·refine gE [8] ?_
  refine gT ?_
  rw[zKn,if_neg c1];rfl
theorem zJc (rates:List Rt) (fr dst day:Int):∀(m:Nat) (a:Int) (k:Nat),rates.length-k<=m->a<k->k<=rates.length->qv rates fr dst day a k<rates.length:=by
 intro m
 induction m with
 |zero=>intro a k h1 h2 h3;unfold qv;rw[if_neg (by omega)];omega
 |succ m ih=>
  intro a k h1 h2 h3
  unfold qv
  split
  ·split
   ·exact ih _ _ (by omega) (by omega) (by omega)
   ·exact ih _ _ (by omega) (by omega) (by omega)
  ·omega
theorem HL (rates:List Rt) (fr dst day:Int):qD rates fr dst day<rates.length:=zJc _ _ _ _ rates.length _ _ (by omega) (by omega) (by omega)
def JF (r:Rlm) (fr:Int) (dst:Int) (day:Int):Rto×Bool:=if 0<=(qD r.rates fr dst day)then ((wH ((r.rates.getD ((qD r.rates fr dst day).toNat) default).num) ((r.rates.getD ((qD r.rates fr dst day).toNat) default).den)).1,decide (((wH ((r.rates.getD ((qD r.rates fr dst day).toNat) default).num) ((r.rates.getD ((qD r.rates fr dst day).toNat) default).den)).2)=0))else if 0<=(qD r.rates dst fr day)then ((wH ((r.rates.getD ((qD r.rates dst fr day).toNat) default).den) ((r.rates.getD ((qD r.rates dst fr day).toNat) default).num)).1,decide (((wH ((r.rates.getD ((qD r.rates dst fr day).toNat) default).den) ((r.rates.getD ((qD r.rates dst fr day).toNat) default).num)).2)=0))else ((wH 0 0).1,decide (((wH 0 0).2)=0))
theorem HC (r:Rlm) (fr:Int) (dst:Int) (day:Int) (hR:RR r):GC Tryz.prog 197 [rlG r,iG fr,iG dst,iG day] (.tup [rqG ((JF r fr dst day).1),bG ((JF r fr dst day).2)]):=by
 have hr:=hR.right.fit
 have hl:=hr.rates
 refine zA Tryz.func197 ?_
 refine gE [1,2,3,4,8,9] ?_
 refine gE [1,2,3,4,8,9,10,11] ?_
 refine gR [.call (zGk r.rates fr dst day (by omega))] [1,2,3,4,8,9,10,11,12] ?_
 have p1:=HL r.rates fr dst day
 refine gE [1,2,3,4,8,9,10,11,12,23] ?_
 refine zB ?_ ?_<;>intro c1<;>try simp only[toN]at c1
 ·refine gE [8,9,10,11] ?_
  refine gR [.call (Vn ((r.rates.getD ((qD r.rates fr dst day).toNat) default).num) ((r.rates.getD ((qD r.rates fr dst day).toNat) default).den) (by first|assumption|exact (hr.rate _ (zK (by omega))).2|exact (hr.rate _ (zK (by omega))).1|exact ⟨by omega,by omega⟩))] [8,9,14,15] ?_
  refine gE [8,9] ?_
  refine gT ?_
  rw[JF,if_pos c1];rfl
 ·refine gR [.call (zGk r.rates dst fr day (by omega))] [4,8,9,10,11,13] ?_
  have p2:=HL r.rates dst fr day
  refine gE [4,8,9,10,11,13,43] ?_
  refine zB ?_ ?_<;>intro c2<;>try simp only[toN]at c2
  ·refine gE [8,9,10,11] ?_
   refine gR [.call (Vn ((r.rates.getD ((qD r.rates dst fr day).toNat) default).den) ((r.rates.getD ((qD r.rates dst fr day).toNat) default).num) (by first|assumption|exact (hr.rate _ (zK (by omega))).2|exact (hr.rate _ (zK (by omega))).1|exact ⟨by omega,by omega⟩))] [8,9,14,15] ?_
   refine gE [8,9] ?_
   refine gT ?_
   rw[JF,if_neg c1,if_pos c2];rfl
  ·refine gR [.call (Vn 0 0 (by first|assumption|exact (hr.rate _ (zK (by omega))).2|exact (hr.rate _ (zK (by omega))).1|exact ⟨by omega,by omega⟩))] [8,9,14,15] ?_
   refine gE [8,9] ?_
   refine gT ?_
   rw[JF,if_neg c1,if_neg c2];rfl
def zGp (sum:Int) (a:Rto) (b:Rto):Int:=if (IntKind.u64.wrap ((IntKind.u64.wrap a.den)*(IntKind.u64.wrap b.den)))<=(IntKind.u64.wrap ((IntKind.u64.wrap a.num)*(IntKind.u64.wrap b.num)))then 0 else i64.wrap ((zEk ((qY (IntKind.u64.wrap sum) (IntKind.u64.wrap ((IntKind.u64.wrap ((IntKind.u64.wrap a.den)*(IntKind.u64.wrap b.den)))-(IntKind.u64.wrap ((IntKind.u64.wrap a.num)*(IntKind.u64.wrap b.num)))))).1) ((qY (IntKind.u64.wrap sum) (IntKind.u64.wrap ((IntKind.u64.wrap ((IntKind.u64.wrap a.den)*(IntKind.u64.wrap b.den)))-(IntKind.u64.wrap ((IntKind.u64.wrap a.num)*(IntKind.u64.wrap b.num)))))).2) (IntKind.u64.wrap ((IntKind.u64.wrap a.den)*(IntKind.u64.wrap b.den)))).1)
theorem zPd (sum:Int) (a:Rto) (b:Rto):GC Tryz.prog 198 [iG sum,rqG a,rqG b] (iG (zGp sum a b)):=by
 refine zA Tryz.func198 ?_
 refine gE [0,4,5,6] ?_
 refine zF env true [] [0,6,7,8] ?_
 refine gE [0,6,7,8,29] ?_
 refine zB ?_ ?_<;>intro c1<;>try simp only[toN]at c1
 ·refine gE [0,6,7,8] ?_
  refine gT ?_
  rw[zGp,if_pos c1];rfl
 ·have w1:=YS (IntKind.u64.wrap a.num*IntKind.u64.wrap b.num)
  have w2:=YS (IntKind.u64.wrap a.den*IntKind.u64.wrap b.den)
  obtain ⟨m1,m2,m3,m4⟩:=zOt (YS sum) (YS (IntKind.u64.wrap (IntKind.u64.wrap a.den*IntKind.u64.wrap b.den)-IntKind.u64.wrap (IntKind.u64.wrap a.num*IntKind.u64.wrap b.num)))
  have m5:=m4 (IntKind.u64.wrap (IntKind.u64.wrap a.den*IntKind.u64.wrap b.den)) (by rw[IntKind.wrap_u64 (IntKind.u64.wrap (IntKind.u64.wrap a.den*IntKind.u64.wrap b.den)-_)];omega) (by omega)
  refine zF env true [.call (zGo (IntKind.u64.wrap sum) (IntKind.u64.wrap ((IntKind.u64.wrap ((IntKind.u64.wrap a.den)*(IntKind.u64.wrap b.den)))-(IntKind.u64.wrap ((IntKind.u64.wrap a.num)*(IntKind.u64.wrap b.num))))) (by first|assumption|exact YS _) (by first|assumption|exact YS _))] [6,8,9,10] ?_
  refine gR [.call (zHh ((qY (IntKind.u64.wrap sum) (IntKind.u64.wrap ((IntKind.u64.wrap ((IntKind.u64.wrap a.den)*(IntKind.u64.wrap b.den)))-(IntKind.u64.wrap ((IntKind.u64.wrap a.num)*(IntKind.u64.wrap b.num)))))).1) ((qY (IntKind.u64.wrap sum) (IntKind.u64.wrap ((IntKind.u64.wrap ((IntKind.u64.wrap a.den)*(IntKind.u64.wrap b.den)))-(IntKind.u64.wrap ((IntKind.u64.wrap a.num)*(IntKind.u64.wrap b.num)))))).2) (IntKind.u64.wrap ((IntKind.u64.wrap a.den)*(IntKind.u64.wrap b.den))) (by first|assumption|(constructor<;>omega)) (by first|omega|exact (YS _).2) (by first|assumption|(constructor<;>omega)))] [6,11] ?_
  refine zF env true [] [6] ?_
  refine gT ?_
  rw[zGp,if_neg c1];rfl
def XB (r:Rlm) (b:Bil) (city:Int) (sum:Int) (due:Int) (day:Int):Int:=if ((r.cities.getD (((r.firms.getD city.toNat default).city).toNat) default).cur)=b.cur then 0 else if (bif (!(JF r b.cur ((r.cities.getD (((r.firms.getD city.toNat default).city).toNat) default).cur) due).2)then true else (!(JF r ((r.cities.getD (((r.firms.getD city.toNat default).city).toNat) default).cur) b.cur day).2))=true then 0 else (zGp sum ((JF r b.cur ((r.cities.getD (((r.firms.getD city.toNat default).city).toNat) default).cur) due).1) ((JF r ((r.cities.getD (((r.firms.getD city.toNat default).city).toNat) default).cur) b.cur day).1))
theorem zRm (r:Rlm) (b:Bil) (city:Int) (sum:Int) (due:Int) (day:Int) (hR:RR r) (hc:0<=city/\city<r.firms.length):GC Tryz.prog 155 [rlG r,zBj b,iG city,iG sum,iG due,iG day] (iG (XB r b city sum due day)):=by
 have hr:=hR.right.fit
 have q1:=hR.right.firmC _ (zK (l:=r.firms) (i:=city.toNat) (by omega))
 refine zA Tryz.func155 ?_
 refine gE [2,3,4,5,6,7,12] ?_
 refine gE [3,4,5,6,7,12,13] ?_
 refine gE [3,4,5,6,7,12,13,32] ?_
 refine zB ?_ ?_<;>intro c1<;>try simp only[toN]at c1
 ·refine gE [3,4,5,6,7,12,13] ?_
  refine gT ?_
  rw[XB,if_pos c1];rfl
 ·refine gR [.call (HC r b.cur ((r.cities.getD (((r.firms.getD city.toNat default).city).toNat) default).cur) due (by assumption))] [3,5,6,7,12,13,14,15] ?_
  refine gR [.call (HC r ((r.cities.getD (((r.firms.getD city.toNat default).city).toNat) default).cur) b.cur day (by assumption))] [3,12,14,15,16,17] ?_
  refine gE [3,12,14,16,56] ?_
  refine zE ?_ ?_<;>intro c2<;>try simp only[bb,toN]at c2
  ·refine gE [3,12,14,16] ?_
   refine gT ?_
   rw[XB,if_neg c1,if_pos (by (try simp only[bb,toN]);exact c2)];rfl
  ·refine gR [.call (zPd sum ((JF r b.cur ((r.cities.getD (((r.firms.getD city.toNat default).city).toNat) default).cur) due).1) ((JF r ((r.cities.getD (((r.firms.getD city.toNat default).city).toNat) default).cur) b.cur day).1))] [12] ?_
   refine gT ?_
   rw[XB,if_neg c1,iN (by (try simp only[bb,toN]);exact c2)];rfl
def vl (r:Rlm) (f:Fil):Prop:=∀s,s∈f.signs->0<=s.who/\s.who<r.firms.length
theorem vl.at_ {r:Rlm} {f:Fil} (h:vl r f) (day:Int):vl r (atV f day):=by
 rw[yd]
 exact fun s hs=>h s ((List.takeWhile_sublist _).subset hs)
def Yo (r:Rlm) (forum:Int) (f:Fil) (sign:Int) (day:Int) (jb_5_1_1:Int) (jb_5_3_1:Int) (k1:Nat) (b5_2:Int):Owd:=if k1<((atV f day).acts).length then if (bif decide (((((atV f day).acts).getD k1 default).kind)=4)then true else decide (((((atV f day).acts).getD k1 default).kind)=5))=true then Yo r forum f sign day jb_5_1_1 jb_5_3_1 (k1+1) (mnI 1099511627776 (i64.wrap (b5_2+((((atV f day).acts).getD k1 default).sum))))else Yo r forum f sign day jb_5_1_1 jb_5_3_1 (k1+1) b5_2 else ⟨((zX r forum f sign day).1).sum,jb_5_1_1,b5_2,jb_5_3_1,0,mnI 1099511627776 (i64.wrap ((i64.wrap ((i64.wrap ((((zX r forum f sign day).1).sum)+jb_5_1_1))+b5_2))+jb_5_3_1)),f.bill.cur⟩
termination_by ((atV f day).acts).length-k1
def JJ (r:Rlm) (forum:Int) (f:Fil) (sign:Int) (day:Int) (jb_5_1_1:Int) (jb_5_3_1:Int):Owd:=Yo r forum f sign day jb_5_1_1 jb_5_3_1 0 0
def JI (r:Rlm) (forum:Int) (f:Fil) (sign:Int) (day:Int) (j18_2:Int) (jb_5_3_3:Int):Owd:=JJ r forum f sign day (zKn (((zX r forum f sign day).1).sum) j18_2 (ZI r forum f day) (mnI day 100000)) jb_5_3_3
def Qv (r:Rlm) (forum:Int) (f:Fil) (sign:Int) (day:Int) (j18_2:Int):Owd:=if (Jz (Yf r forum 17 (⟨f,sign,sign,(-1),(ZI r forum f day),day⟩:Cas)))=1 then JI r forum f sign day j18_2 (XB r f.bill ((((atV f day).signs).getD sign.toNat default).who) (((zX r forum f sign day).1).sum) (ZI r forum f day) (mnI day 100000))else JI r forum f sign day j18_2 0
def qP (r:Rlm) (forum:Int) (f:Fil) (sign:Int) (day:Int):Owd:=if (bif (bif (!(zX r forum f sign day).2)then true else decide (sign<0))then true else decide ((((atV f day).signs).length:Int)<=sign))=true then ⟨0,0,0,0,0,0,0⟩else if (bif (!decide ((ZI r forum f day)=(-1)))then decide ((ZI r forum f day)<=(mnI day 100000))else false)=true then if f.bill.rate=0 then Qv r forum f sign day (mnI 1000 (mxI 0 (HV (Yf r forum 16 (⟨f,sign,sign,(-1),(ZI r forum f day),day⟩:Cas)))))else Qv r forum f sign day f.bill.rate else JJ r forum f sign day 0 0
theorem zOb (r:Rlm) (forum:Int) (f:Fil) (sign:Int) (day:Int) (hR:RR r) (hF:FitFi f) (hw:vl r f):GC Tryz.prog 102 [rlG r,iG forum,fiG f,iG sign,iG day] (owG (qP r forum f sign day)):=by
 have hr:=hR.right.fit
 have h1:=hr.orders
 have h2:=hr.cities
 have h3:=hr.firms
 have hF2:=hF.at_ day
 have hw2:=hw.at_ day
 have g3:=hF2.acts
 have g1:(atV f day).signs.length<=1000:=hF2.signs
 refine zA Tryz.func102 ?_
 refine gE [1,3,4,5,7,10] ?_
 refine gR [.call (Jc f day (by first|assumption|exact FitFi.at_ (by assumption) _))] [1,3,4,5,7,10,11] ?_
 refine gR [.call (zSk r forum f sign day hR (by first|assumption|exact FitFi.at_ (by assumption) _|exact FitFi.nof (by assumption)|exact FitFi.nof (FitFi.at_ (by assumption) _)))] [1,3,4,5,7,10,11,12,13] ?_
 refine gE [1,3,4,5,7,10,11,12,45] ?_
 refine zE ?_ ?_<;>intro c1<;>try simp only[bb,toN]at c1
 ·refine gE [1,3,4,5,7,10,11,12] ?_
  refine gT ?_
  rw[qP,if_pos (show (bif (bif (!(zX r forum f sign day).2)then true else decide (sign<0))then true else decide ((((atV f day).signs).length:Int)<=sign))=true by (try simp only[bb,toN]);exact c1)];rfl
 ·refine gE [1,3,4,5,7,10,11,14] ?_
  refine gR [.call (Wt r forum f day hR (by first|assumption|exact FitFi.at_ (by assumption) _|exact FitFi.nof (by assumption)|exact FitFi.nof (FitFi.at_ (by assumption) _)))] [1,3,4,5,7,10,11,14,15,16] ?_
  refine gE [1,3,5,7,10,11,14,15,16,17] ?_
  refine gE [1,3,5,7,10,11,14,15,16,17,72] ?_
  refine yV (α:=Int×Int) (fun x=>qP r forum f sign day=JJ r forum f sign day x.1 x.2) (fun x=>⟨[(10,.ptr 2 0 0 0),(11,.ptr 3 0 0 0),(14,.ptr 5 0 0 0)],[(0,some (.box [.d (.row default ze r.currencies),.d (.row default ctC r.cities),.d (.row default inC r.groups),.d (.row default fmC r.firms),.d (.row default odC r.orders),.d (.row default usC r.usances),.d (.row default rtC r.rates),.d (.row default htC r.halts)])),(1,some (.box [iG f.bill.drawer,iG f.bill.drawee,iG f.bill.payee,iG f.bill.sum,iG f.bill.cur,iG f.bill.ten.kind,iG f.bill.ten.n,iG f.bill.ten.unit,iG f.bill.day,iG f.bill.city,iG f.bill.pay,iG f.bill.need,iG f.bill.rate,iG f.bill.flags,iG f.bill.parts,.d (.row default sgC f.signs),.d (.row default alC f.alters),.d (.row default acC f.acts),.d (.row default fcC f.facts)])),(2,some (.box [iG 0,iG 0,iG 0,iG 0,iG 0,iG 0,iG 0])),(3,some (.box [iG ((atV f day).bill.drawer),iG ((atV f day).bill.drawee),iG ((atV f day).bill.payee),iG ((atV f day).bill.sum),iG ((atV f day).bill.cur),iG ((atV f day).bill.ten.kind),iG ((atV f day).bill.ten.n),iG ((atV f day).bill.ten.unit),iG ((atV f day).bill.day),iG ((atV f day).bill.city),iG ((atV f day).bill.pay),iG ((atV f day).bill.need),iG ((atV f day).bill.rate),iG ((atV f day).bill.flags),iG ((atV f day).bill.parts),.d (.row default sgC ((atV f day).signs)),.d (.row default alC ((atV f day).alters)),.d (.row default acC ((atV f day).acts)),.d (.row default fcC ((atV f day).facts))])),(4,some (.box [iG (((zX r forum f sign day).1).sign),iG (((zX r forum f sign day).1).kind),iG (((zX r forum f sign day).1).firm),iG (((zX r forum f sign day).1).binds),iG (((zX r forum f sign day).1).text),iG (((zX r forum f sign day).1).sum),bG (((zX r forum f sign day).1).recourse)])),(5,some (.box [iG (((zX r forum f sign day).1).sum),iG x.1,iG 0,iG x.2,iG 0,iG 0,iG f.bill.cur])),(6,some (.box [iG f.bill.drawer,iG f.bill.drawee,iG f.bill.payee,iG f.bill.sum,iG f.bill.cur,iG f.bill.ten.kind,iG f.bill.ten.n,iG f.bill.ten.unit,iG f.bill.day,iG f.bill.city,iG f.bill.pay,iG f.bill.need,iG f.bill.rate,iG f.bill.flags,iG f.bill.parts,.d (.row default sgC f.signs),.d (.row default alC f.alters),.d (.row default acC f.acts),.d (.row default fcC f.facts),iG sign,iG sign,iG (-1),iG (ZI r forum f day),iG day]))],7⟩) ?_ ?_
  ·rintro ⟨jb_5_1_1,jb_5_3_1⟩ hjc1
   dsimp only at*
   refine gE [10,14,114,115,116] ?_
   refine zG (α:=Nat×Int) (fun x=>x.1<=((atV f day).acts).length/\Yo r forum f sign day jb_5_1_1 jb_5_3_1 0 0=Yo r forum f sign day jb_5_1_1 jb_5_3_1 x.1 x.2) (fun x=>[(116,iG x.1)]) (fun x=>[(5,some (.box [iG (((zX r forum f sign day).1).sum),iG jb_5_1_1,iG x.2,iG jb_5_3_1,iG 0,iG 0,iG f.bill.cur]))]) (fun x=>((atV f day).acts).length-x.1) (0,0) ⟨by (try simp only[]);omega,rfl⟩ ?_ (hp:=by (try simp only[zC]);repeat' first|exact trivial|exact rfl|exact zI.refl _|exact zH.refl _|(simp;done)|apply And.intro)
   rintro ⟨k1,b5_2⟩ ⟨hi1,he⟩
   dsimp only at*
   refine gE [10,14,114,115,116,117] ?_
   refine zB ?_ ?_<;>intro c2<;>try simp only[toN]at c2
   ·refine gE [10,14,20,114,115,116] ?_
    refine gE [10,14,20,114,115,116,127] ?_
    refine zE ?_ ?_<;>intro c3<;>try simp only[bb,toN]at c3
    ·refine zF env true [] [10,14,114,115,116] ?_
     refine gE [10,14,114,115,116] ?_
     refine zD ((k1+1,mnI 1099511627776 (i64.wrap (b5_2+((((atV f day).acts).getD k1 default).sum))))) ?_ (hp:=by (try simp only[zC]);repeat' first|exact trivial|exact rfl|exact zI.refl _|exact zH.refl _|(simp;done)|apply And.intro) (hm:=by dsimp only;omega)
     refine ⟨by (try simp only[]);omega,he.trans ?_⟩
     rw[Yo,if_pos (show k1<((atV f day).acts).length by omega),if_pos (show (bif decide (((((atV f day).acts).getD k1 default).kind)=4)then true else decide (((((atV f day).acts).getD k1 default).kind)=5))=true by (try simp only[bb,toN]);exact c3)]
     try rfl
    ·refine gE [10,14,114,115,116] ?_
     refine zD ((k1+1,b5_2)) ?_ (hp:=by (try simp only[zC]);repeat' first|exact trivial|exact rfl|exact zI.refl _|exact zH.refl _|(simp;done)|apply And.intro) (hm:=by dsimp only;omega)
     refine ⟨by (try simp only[]);omega,he.trans ?_⟩
     rw[Yo,if_pos (show k1<((atV f day).acts).length by omega),if_neg (show ¬((bif decide (((((atV f day).acts).getD k1 default).kind)=4)then true else decide (((((atV f day).acts).getD k1 default).kind)=5))=true)by rw[Bool.not_eq_true];(try simp only[bb,toN]);exact c3)]
     try rfl
   ·refine zF env true [] [10,14] ?_
    refine gE [10] ?_
    refine gT ?_
    rw[hjc1,JJ,he,Yo,if_neg (show ¬(k1<((atV f day).acts).length)by omega)];rfl
  refine zE ?_ ?_<;>intro c4<;>try simp only[bb,toN]at c4
  ·refine gE [1,3,5,7,10,11,14,15,16,17,18] ?_
   refine gE [1,3,5,7,10,11,14,15,16,17,18,77] ?_
   refine yV (α:=Int) (fun x=>qP r forum f sign day=Qv r forum f sign day x) (fun x=>⟨[(1,iG forum),(3,iG sign),(5,.ptr 0 0 0 0),(7,.ptr 1 0 0 0),(10,.ptr 2 0 0 0),(11,.ptr 3 0 0 0),(14,.ptr 5 0 0 0),(15,iG (ZI r forum f day)),(16,iG (mnI day 100000)),(17,.ptr 6 0 0 0),(18,iG x)],[(0,some (.box [.d (.row default ze r.currencies),.d (.row default ctC r.cities),.d (.row default inC r.groups),.d (.row default fmC r.firms),.d (.row default odC r.orders),.d (.row default usC r.usances),.d (.row default rtC r.rates),.d (.row default htC r.halts)])),(1,some (.box [iG f.bill.drawer,iG f.bill.drawee,iG f.bill.payee,iG f.bill.sum,iG f.bill.cur,iG f.bill.ten.kind,iG f.bill.ten.n,iG f.bill.ten.unit,iG f.bill.day,iG f.bill.city,iG f.bill.pay,iG f.bill.need,iG f.bill.rate,iG f.bill.flags,iG f.bill.parts,.d (.row default sgC f.signs),.d (.row default alC f.alters),.d (.row default acC f.acts),.d (.row default fcC f.facts)])),(2,some (.box [iG 0,iG 0,iG 0,iG 0,iG 0,iG 0,iG 0])),(3,some (.box [iG ((atV f day).bill.drawer),iG ((atV f day).bill.drawee),iG ((atV f day).bill.payee),iG ((atV f day).bill.sum),iG ((atV f day).bill.cur),iG ((atV f day).bill.ten.kind),iG ((atV f day).bill.ten.n),iG ((atV f day).bill.ten.unit),iG ((atV f day).bill.day),iG ((atV f day).bill.city),iG ((atV f day).bill.pay),iG ((atV f day).bill.need),iG ((atV f day).bill.rate),iG ((atV f day).bill.flags),iG ((atV f day).bill.parts),.d (.row default sgC ((atV f day).signs)),.d (.row default alC ((atV f day).alters)),.d (.row default acC ((atV f day).acts)),.d (.row default fcC ((atV f day).facts))])),(4,some (.box [iG (((zX r forum f sign day).1).sign),iG (((zX r forum f sign day).1).kind),iG (((zX r forum f sign day).1).firm),iG (((zX r forum f sign day).1).binds),iG (((zX r forum f sign day).1).text),iG (((zX r forum f sign day).1).sum),bG (((zX r forum f sign day).1).recourse)])),(5,some (.box [iG (((zX r forum f sign day).1).sum),iG 0,iG 0,iG 0,iG 0,iG 0,iG f.bill.cur])),(6,some (.box [iG f.bill.drawer,iG f.bill.drawee,iG f.bill.payee,iG f.bill.sum,iG f.bill.cur,iG f.bill.ten.kind,iG f.bill.ten.n,iG f.bill.ten.unit,iG f.bill.day,iG f.bill.city,iG f.bill.pay,iG f.bill.need,iG f.bill.rate,iG f.bill.flags,iG f.bill.parts,.d (.row default sgC f.signs),.d (.row default alC f.alters),.d (.row default acC f.acts),.d (.row default fcC f.facts),iG sign,iG sign,iG (-1),iG (ZI r forum f day),iG day]))],7⟩) ?_ ?_
   ·rintro j18_2 hjc2
    refine gR [.call (zVz (((zX r forum f sign day).1).sum) j18_2 (ZI r forum f day) (mnI day 100000))] [1,3,5,7,10,11,14,15,16,17] ?_
    refine gR [.call (wn r forum 17 (⟨f,sign,sign,(-1),(ZI r forum f day),day⟩:Cas) hR (by first|assumption|exact FitFi.at_ (by assumption) _|exact FitFi.nof (by assumption)|exact FitFi.nof (FitFi.at_ (by assumption) _))),.call (Wh (Yf r forum 17 (⟨f,sign,sign,(-1),(ZI r forum f day),day⟩:Cas)))] [3,5,7,10,11,14,15,16,97] ?_
    refine yV (α:=Int) (fun x=>qP r forum f sign day=JI r forum f sign day j18_2 x) (fun x=>⟨[(10,.ptr 2 0 0 0),(11,.ptr 3 0 0 0),(14,.ptr 5 0 0 0)],[(0,some (.box [.d (.row default ze r.currencies),.d (.row default ctC r.cities),.d (.row default inC r.groups),.d (.row default fmC r.firms),.d (.row default odC r.orders),.d (.row default usC r.usances),.d (.row default rtC r.rates),.d (.row default htC r.halts)])),(1,some (.box [iG f.bill.drawer,iG f.bill.drawee,iG f.bill.payee,iG f.bill.sum,iG f.bill.cur,iG f.bill.ten.kind,iG f.bill.ten.n,iG f.bill.ten.unit,iG f.bill.day,iG f.bill.city,iG f.bill.pay,iG f.bill.need,iG f.bill.rate,iG f.bill.flags,iG f.bill.parts,.d (.row default sgC f.signs),.d (.row default alC f.alters),.d (.row default acC f.acts),.d (.row default fcC f.facts)])),(2,some (.box [iG 0,iG 0,iG 0,iG 0,iG 0,iG 0,iG 0])),(3,some (.box [iG ((atV f day).bill.drawer),iG ((atV f day).bill.drawee),iG ((atV f day).bill.payee),iG ((atV f day).bill.sum),iG ((atV f day).bill.cur),iG ((atV f day).bill.ten.kind),iG ((atV f day).bill.ten.n),iG ((atV f day).bill.ten.unit),iG ((atV f day).bill.day),iG ((atV f day).bill.city),iG ((atV f day).bill.pay),iG ((atV f day).bill.need),iG ((atV f day).bill.rate),iG ((atV f day).bill.flags),iG ((atV f day).bill.parts),.d (.row default sgC ((atV f day).signs)),.d (.row default alC ((atV f day).alters)),.d (.row default acC ((atV f day).acts)),.d (.row default fcC ((atV f day).facts))])),(4,some (.box [iG (((zX r forum f sign day).1).sign),iG (((zX r forum f sign day).1).kind),iG (((zX r forum f sign day).1).firm),iG (((zX r forum f sign day).1).binds),iG (((zX r forum f sign day).1).text),iG (((zX r forum f sign day).1).sum),bG (((zX r forum f sign day).1).recourse)])),(5,some (.box [iG (((zX r forum f sign day).1).sum),iG (zKn (((zX r forum f sign day).1).sum) j18_2 (ZI r forum f day) (mnI day 100000)),iG 0,iG x,iG 0,iG 0,iG f.bill.cur])),(6,some (.box [iG f.bill.drawer,iG f.bill.drawee,iG f.bill.payee,iG f.bill.sum,iG f.bill.cur,iG f.bill.ten.kind,iG f.bill.ten.n,iG f.bill.ten.unit,iG f.bill.day,iG f.bill.city,iG f.bill.pay,iG f.bill.need,iG f.bill.rate,iG f.bill.flags,iG f.bill.parts,.d (.row default sgC f.signs),.d (.row default alC f.alters),.d (.row default acC f.acts),.d (.row default fcC f.facts),iG sign,iG sign,iG (-1),iG (ZI r forum f day),iG day]))],7⟩) ?_ ?_
    ·rintro jb_5_3_3 hjc3
     refine za (((zKn (((zX r forum f sign day).1).sum) j18_2 (ZI r forum f day) (mnI day 100000)),jb_5_3_3)) ?_ (hp:=by (try simp only[zC]);repeat' first|exact trivial|exact rfl|exact zI.refl _|exact zH.refl _|(simp;done)|apply And.intro)
     exact by rw[hjc3,JI]
    refine zB ?_ ?_<;>intro c5<;>try simp only[toN]at c5
    ·refine gR [.call (zRm r f.bill ((((atV f day).signs).getD sign.toNat default).who) (((zX r forum f sign day).1).sum) (ZI r forum f day) (mnI day 100000) (by assumption) (by first|assumption|exact hw2 _ (zK (by omega))|(constructor<;>omega)))] [10,11,14] ?_
     refine za ((XB r f.bill ((((atV f day).signs).getD sign.toNat default).who) (((zX r forum f sign day).1).sum) (ZI r forum f day) (mnI day 100000))) ?_ (hp:=by (try simp only[zC]);repeat' first|exact trivial|exact rfl|exact zI.refl _|exact zH.refl _|(simp;done)|apply And.intro)
     exact by rw[hjc2,Qv,if_pos c5]
    ·refine za (0) ?_ (hp:=by (try simp only[zC]);repeat' first|exact trivial|exact rfl|exact zI.refl _|exact zH.refl _|(simp;done)|apply And.intro)
     exact by rw[hjc2,Qv,if_neg c5]
   refine zB ?_ ?_<;>intro c6<;>try simp only[toN]at c6
   ·refine gR [.call (wn r forum 16 (⟨f,sign,sign,(-1),(ZI r forum f day),day⟩:Cas) hR (by first|assumption|exact FitFi.at_ (by assumption) _|exact FitFi.nof (by assumption)|exact FitFi.nof (FitFi.at_ (by assumption) _))),.call (zOn (Yf r forum 16 (⟨f,sign,sign,(-1),(ZI r forum f day),day⟩:Cas)))] [1,3,5,7,10,11,14,15,16,17,18] ?_
    refine za (mnI 1000 (mxI 0 (HV (Yf r forum 16 (⟨f,sign,sign,(-1),(ZI r forum f day),day⟩:Cas))))) ?_ (hp:=by (try simp only[zC]);repeat' first|exact trivial|exact rfl|exact zI.refl _|exact zH.refl _|(simp;done)|apply And.intro)
    exact by rw[qP,if_neg (show ¬((bif (bif (!(zX r forum f sign day).2)then true else decide (sign<0))then true else decide ((((atV f day).signs).length:Int)<=sign))=true)by rw[Bool.not_eq_true];(try simp only[bb,toN]);exact c1),if_pos (show (bif (!decide ((ZI r forum f day)=(-1)))then decide ((ZI r forum f day)<=(mnI day 100000))else false)=true by (try simp only[bb,toN]);exact c4),if_pos c6]
   ·refine za (f.bill.rate) ?_ (hp:=by (try simp only[zC]);repeat' first|exact trivial|exact rfl|exact zI.refl _|exact zH.refl _|(simp;done)|apply And.intro)
    exact by rw[qP,if_neg (show ¬((bif (bif (!(zX r forum f sign day).2)then true else decide (sign<0))then true else decide ((((atV f day).signs).length:Int)<=sign))=true)by rw[Bool.not_eq_true];(try simp only[bb,toN]);exact c1),if_pos (show (bif (!decide ((ZI r forum f day)=(-1)))then decide ((ZI r forum f day)<=(mnI day 100000))else false)=true by (try simp only[bb,toN]);exact c4),if_neg c6]
  ·refine za ((0,0)) ?_ (hp:=by (try simp only[zC]);repeat' first|exact trivial|exact rfl|exact zI.refl _|exact zH.refl _|(simp;done)|apply And.intro)
   exact by rw[qP,if_neg (show ¬((bif (bif (!(zX r forum f sign day).2)then true else decide (sign<0))then true else decide ((((atV f day).signs).length:Int)<=sign))=true)by rw[Bool.not_eq_true];(try simp only[bb,toN]);exact c1),if_neg (show ¬((bif (!decide ((ZI r forum f day)=(-1)))then decide ((ZI r forum f day)<=(mnI day 100000))else false)=true)by rw[Bool.not_eq_true];(try simp only[bb,toN]);exact c4)]
def Ja (a:Int) (b:Int):Int:=if (bif decide (a=0)then true else decide (b=0))=true then 0 else if (bif decide (a=2)then true else decide (b=2))=true then 2 else 1
theorem ua (a:Int) (b:Int):GC Tryz.prog 148 [iG a,iG b] (iG (Ja a b)):=by
 refine zA Tryz.func148 ?_
 refine gE [0,1,4] ?_
 refine gE [0,1,4,5] ?_
 refine zE ?_ ?_<;>intro c1<;>try simp only[bb,toN]at c1
 ·refine gE [4] ?_
  refine gT ?_
  rw[Ja,if_pos (by (try simp only[bb,toN]);exact c1)];rfl
 ·refine gE [4,12] ?_
  refine zE ?_ ?_<;>intro c2<;>try simp only[bb,toN]at c2
  ·refine gE [4] ?_
   refine gT ?_
   rw[Ja,iN (by (try simp only[bb,toN]);exact c1),if_pos (by (try simp only[bb,toN]);exact c2)];rfl
  ·refine gE [4] ?_
   refine gT ?_
   rw[Ja,iN (by (try simp only[bb,toN]);exact c1),iN (by (try simp only[bb,toN]);exact c2)];rfl
def QH (v:Ovw) (s:Int):Int:=QG v.now s
theorem zSn (v:Ovw) (s:Int) (hF:FitFi v.now) (hB:Zj v.now) (hs:0<=s/\s<v.now.signs.length):GC Tryz.prog 147 [ovG v,iG s] (iG (QH v s)):=zSo v s hF hB hs
theorem zSq {g:Fil} (hB:Zj g) {s:Int} (h:0<=s/\s<g.signs.length):0<=QG g s/\QG g s<g.signs.length:=by
 have:=uc hB (s.toNat+1) (s.toNat+1) s h.1 h.2 (by omega) (by omega)
 exact ⟨this.2.1,by have:=this.2.2;unfold QG;omega⟩
def JD (c:Crt) (o:Onr) (sign:Int) (links:List Int) (effs:List Efc) (a16_1:Int) (a17_1:Int) (k1:Nat):Int×Int:=if k1<links.length then if (links.getD k1 default)<=o.sign then if (bif decide ((links.getD k1 default)<=o.sign)then decide ((QH c.v sign)<=(links.getD k1 default))else false)=true then JD c o sign links effs (i64.wrap (a16_1+1)) (i64.wrap (a17_1+1)) (k1+1)else JD c o sign links effs a16_1 (i64.wrap (a17_1+1)) (k1+1)else if (bif decide ((links.getD k1 default)<=o.sign)then decide ((QH c.v sign)<=(links.getD k1 default))else false)=true then JD c o sign links effs (i64.wrap (a16_1+1)) a17_1 (k1+1)else JD c o sign links effs a16_1 a17_1 (k1+1)else if (!(Qz links (QH c.v sign)))=true then ((Ja (Ja o.state ((effs.getD sign.toNat default).binds)) ((Qy c.r c.forum c.v.all (QH c.v sign) c.v.day).all)),a17_1)else ((Ja (Ja o.state ((effs.getD sign.toNat default).binds)) ((Qy c.r c.forum c.v.all (QH c.v sign) c.v.day).all)),a16_1)
termination_by links.length-k1
def stO (c:Crt) (o:Onr) (sign:Int) (links:List Int) (effs:List Efc):Int×Int:=if ((c.v.now.signs.getD ((QH c.v sign).toNat) default).kind)=1 then if (!(bif (!decide (c.due=(-1)))then decide (c.due<=c.v.day)else false))=true then (0,0)else ((Ja o.state ((effs.getD sign.toNat default).binds)),0)else if (bif (bif (!(bif (!decide (c.due=(-1)))then decide (c.due<=c.v.day)else false))then (!(c.v.now.acts.any (fun y=>ut y)))else false)then true else (!(effs.getD ((QH c.v sign).toNat) default).recourse))=true then (0,0)else JD c o sign links effs 0 1 0
theorem zZh (c:Crt) (o:Onr) (sign:Int) (links:List Int) (effs:List Efc) (hR:RR c.r) (hF:FitFi c.v.now) (hA:FitFi c.v.all) (hB:Zj c.v.now) (hs:0<=sign/\sign<c.v.now.signs.length) (he:effs.length=c.v.now.signs.length) (hl:links.length<=1000) (hp:0<=c.v.all.bill.pay/\c.v.all.bill.pay<c.r.cities.length):GC Tryz.prog 101 [zXi c,onG o,iG sign,.d (.row default inC links),.d (.row default efC effs)] (.tup [iG ((stO c o sign links effs).1),iG ((stO c o sign links effs).2)]):=by
 have hb:0<=QH c.v sign/\QH c.v sign<c.v.now.signs.length:=zSq hB hs
 have g1:=hF.signs
 have g3:=hF.acts
 refine zA Tryz.func101 ?_
 refine gE [2,3,4,5,6,10,11] ?_
 refine gR [.call (zSn c.v sign (by assumption) (by assumption) (by first|assumption|(constructor<;>omega)))] [2,3,4,5,6,10,11,12] ?_
 refine gR [.call (ua o.state ((effs.getD sign.toNat default).binds))] [3,4,5,6,10,11,12,13] ?_
 refine gE [3,4,5,6,10,11,12,13,14] ?_
 refine gE [3,4,5,6,10,11,12,13,14,51] ?_
 refine zB ?_ ?_<;>intro c1<;>try simp only[toN]at c1
 ·refine gE [3,4,5,6,10,11,12,13,14,53] ?_
  refine zE ?_ ?_<;>intro c2<;>try simp only[bb,toN]at c2
  ·refine gE [3,4,5,6,10,11,12,13,14] ?_
   refine gT ?_
   rw[stO,if_pos c1,if_pos (by (try simp only[bb,toN]);exact c2)];rfl
  ·refine gE [3,4,5,6,10,11,12,13,14] ?_
   refine gT ?_
   rw[stO,if_pos c1,iN (by (try simp only[bb,toN]);exact c2)];rfl
 ·refine gR [.call (UF c.v.now.acts (by omega))] [3,4,5,6,10,11,12,13,14,15] ?_
  refine gE [3,5,6,10,11,12,13,73] ?_
  refine zE ?_ ?_<;>intro c3<;>try simp only[bb,toN]at c3
  ·refine gE [3,5,6,10,11,12,13] ?_
   refine gT ?_
   rw[stO,if_neg c1,if_pos (by (try simp only[bb,toN]);exact c3)];rfl
  ·refine gE [3,5,6,10,11,12,13,16,17] ?_
   refine gE [3,5,6,10,11,12,13,16,17,74,75,76] ?_
   refine zG (α:=Int×Int×Nat) (fun x=>x.2.2<=links.length/\JD c o sign links effs 0 1 0=JD c o sign links effs x.1 x.2.1 x.2.2) (fun x=>[(16,iG x.1),(17,iG x.2.1),(76,iG x.2.2)]) (fun x=>[]) (fun x=>links.length-x.2.2) (0,1,0) ⟨by (try simp only[]);omega,rfl⟩ ?_ (hp:=by (try simp only[zC]);repeat' first|exact trivial|exact rfl|exact zI.refl _|exact zH.refl _|(simp;done)|apply And.intro)
   rintro ⟨a16_1,a17_1,k1⟩ ⟨hi1,he⟩
   dsimp only at*
   refine gE [3,5,6,10,11,12,13,16,17,74,75,76,77] ?_
   refine zB ?_ ?_<;>intro c4<;>try simp only[toN]at c4
   ·refine gE [3,5,6,10,11,12,13,16,17,19,74,75,76] ?_
    refine gE [3,5,6,10,11,12,13,16,17,19,74,75,76,83] ?_
    refine zB ?_ ?_<;>intro c5<;>try simp only[toN]at c5
    ·refine zF env true [] [3,5,6,10,11,12,13,16,17,19,74,75,76] ?_
     refine gE [3,5,6,10,11,12,13,16,17,74,75,76,94] ?_
     refine zE ?_ ?_<;>intro c6<;>try simp only[bb,toN]at c6
     ·refine zF env true [] [3,5,6,10,11,12,13,16,17,74,75,76] ?_
      refine gE [3,5,6,10,11,12,13,16,17,74,75,76] ?_
      refine zD ((i64.wrap (a16_1+1),i64.wrap (a17_1+1),k1+1)) ?_ (hp:=by (try simp only[zC]);repeat' first|exact trivial|exact rfl|exact zI.refl _|exact zH.refl _|(simp;done)|apply And.intro) (hm:=by dsimp only;omega)
      refine ⟨by (try simp only[]);omega,he.trans ?_⟩
      rw[JD,if_pos (by omega),if_pos c5,if_pos (by (try simp only[bb,toN]);exact c6)]
      try rfl
     ·refine gE [3,5,6,10,11,12,13,16,17,74,75,76] ?_
      refine zD ((a16_1,i64.wrap (a17_1+1),k1+1)) ?_ (hp:=by (try simp only[zC]);repeat' first|exact trivial|exact rfl|exact zI.refl _|exact zH.refl _|(simp;done)|apply And.intro) (hm:=by dsimp only;omega)
      refine ⟨by (try simp only[]);omega,he.trans ?_⟩
      rw[JD,if_pos (by omega),if_pos c5,iN (by (try simp only[bb,toN]);exact c6)]
      try rfl
    ·refine gE [3,5,6,10,11,12,13,16,17,74,75,76,94] ?_
     refine zE ?_ ?_<;>intro c7<;>try simp only[bb,toN]at c7
     ·refine zF env true [] [3,5,6,10,11,12,13,16,17,74,75,76] ?_
      refine gE [3,5,6,10,11,12,13,16,17,74,75,76] ?_
      refine zD ((i64.wrap (a16_1+1),a17_1,k1+1)) ?_ (hp:=by (try simp only[zC]);repeat' first|exact trivial|exact rfl|exact zI.refl _|exact zH.refl _|(simp;done)|apply And.intro) (hm:=by dsimp only;omega)
      refine ⟨by (try simp only[]);omega,he.trans ?_⟩
      rw[JD,if_pos (by omega),if_neg c5,if_pos (by (try simp only[bb,toN]);exact c7)]
      try rfl
     ·refine gE [3,5,6,10,11,12,13,16,17,74,75,76] ?_
      refine zD ((a16_1,a17_1,k1+1)) ?_ (hp:=by (try simp only[zC]);repeat' first|exact trivial|exact rfl|exact zI.refl _|exact zH.refl _|(simp;done)|apply And.intro) (hm:=by dsimp only;omega)
      refine ⟨by (try simp only[]);omega,he.trans ?_⟩
      rw[JD,if_pos (by omega),if_neg c5,iN (by (try simp only[bb,toN]);exact c7)]
      try rfl
   ·refine gR [.call ((fun l x h=>zl l h x) links (QH c.v sign) (by first|omega|(simp;done)|decide))] [5,10,11,12,13,16,17,101] ?_
    refine zE ?_ ?_<;>intro c8<;>try simp only[bb,toN]at c8
    ·refine gE [5,10,11,12,13,16] ?_
     refine gR [.call (zGv c.r c.forum c.v.all (QH c.v sign) c.v.day (by assumption) (by assumption) (by assumption)),.call (ua (Ja o.state ((effs.getD sign.toNat default).binds)) ((Qy c.r c.forum c.v.all (QH c.v sign) c.v.day).all))] [10,11] ?_
     refine gT ?_
     rw[stO,if_neg c1,iN (by (try simp only[bb,toN]);exact c3),he,JD,if_neg (by omega),if_pos (by (try simp only[bb,toN]);exact c8)];rfl
    ·refine gR [.call (zGv c.r c.forum c.v.all (QH c.v sign) c.v.day (by assumption) (by assumption) (by assumption)),.call (ua (Ja o.state ((effs.getD sign.toNat default).binds)) ((Qy c.r c.forum c.v.all (QH c.v sign) c.v.day).all))] [10,11] ?_
     refine gT ?_
     rw[stO,if_neg c1,iN (by (try simp only[bb,toN]);exact c3),he,JD,if_neg (by omega),iN (by (try simp only[bb,toN]);exact c8)];rfl
def vg (c:Crt) (last:Int):List Int->Onr->List Onr
 | [],o=>[o]
 |l::ls,o=>if JG c l last=0 then [o]else if JG c l last=2 then ⟨o.firm,o.sign,2⟩::vg c last ls ⟨(c.v.now.signs.getD l.toNat default).to_,l,2⟩else vg c last ls ⟨(c.v.now.signs.getD l.toNat default).to_,l,o.state⟩
def HM (c:Crt):Onr:=⟨c.v.now.bill.payee,-1,1⟩
def JP (l:List Int):Int:=l.getD ((l.length:Int)-1).toNat default
def jW (c:Crt) (links:List Int):List Onr:=vg c (JP links) links (HM c)
theorem zLp (l:List Int) (k:Nat) (h:k<l.length):l.drop k=l.getD k default::l.drop (k+1):=by
 rw[List.drop_eq_getElem_cons h,List.getD_eq_getElem?_getD,List.getElem?_eq_getElem h];rfl
theorem zZx (c:Crt) (links:List Int) (hR:RR c.r) (hF:FitFi c.v.now) (hl:links.length<=1000) (hk:∀l,l∈links->0<=l/\l<c.v.now.signs.length):XN Tryz.prog 143 [.ep (crtC c),.ep [.row default inC links]] (fun o:Onr=>[onG o]) (jW c links):=by
 have g1:=hF.signs
 refine JR Tryz.func143 fun C hg hN=> ?_
 refine (yF (c':=_) (K':=_) (n:=1000) (K:=[]) rfl ?_:GYK C _ (zMc _) _ [] _ _).gy
 refine zc env false [] [0,1,2,4] ?_
 refine zc env false [] [0,1,2,4,14,15,16] ?_
 refine XO (β:=List Onr×Onr×Nat) (fun x=>x.2.2<=links.length/\x.1++vg c (JP links) (links.drop x.2.2) x.2.1=jW c links) (fun x=>[(16,iG x.2.2)]) (fun x=>[(0,some (.box [iG x.2.1.firm,iG x.2.1.sign,iG x.2.1.state]))]) (fun x=>(true,x.1)) (fun x=>links.length-x.2.2) ([],HM c,0) ⟨Nat.zero_le _,rfl⟩ ?_
 rintro ⟨pre,o,k⟩ ⟨ha,he⟩
 dsimp only at*
 refine zc env false [] [0,1,2,4,14,15,16,17] ?_
 refine VC (fun c1=> ?_) (fun c1=> ?_)
 ·have hk2:k<links.length:=by omega
  rw[zLp links k hk2,vg]at he
  have hlk:=hk _ (zK (l:=links) (i:=k) hk2)
  refine zc env false [] [0,1,2,4,6,14,15,16] ?_ (hp:=(by simp only[zC,bb,toN,loI,hiI];repeat' first|exact trivial|exact zI.refl _|exact zH.refl _|exact rfl|omega|apply And.intro|intro _))
  refine zc env false [.call (zNx c (links.getD k default) (links.getD ((links.length:Int)-1).toNat default) hR hF)] [0,1,2,4,6,7,14,15,16] ?_ (hp:=(by simp only[zC,bb,toN,loI,hiI];repeat' first|exact trivial|exact zI.refl _|exact zH.refl _|exact rfl|omega|apply And.intro|intro _))
  refine zc env false [] [0,1,2,4,6,7,14,15,16,30] ?_
  refine VC (fun c2=> ?_) (fun c2=> ?_)
  ·rw[if_pos (show JG c (links.getD k default) (JP links)=0 from c2)]at he
   refine wR ?_
   refine YQ env false 2 [] ?_
   refine jx o [] (by rw[hN];exact he) (by rw[hg]) fun b=> ?_
   refine wQ [] ?_
   cases b with
   |true=>exact Wd (.inl (congrArg (Prod.mk true) he))
   |false=>exact Wd (.inr rfl)
  ·rw[if_neg (show ¬JG c (links.getD k default) (JP links)=0 from c2)]at he
   refine zc env false [] [0,1,2,4,6,7,14,15,16,32] ?_
   refine VC (fun c3=> ?_) (fun c3=> ?_)
   ·rw[if_pos (show JG c (links.getD k default) (JP links)=2 from c3)]at he
    refine zc env false [] [0,1,2,4,6,14,15,16] ?_
    refine wR ?_
    refine YQ env false 2 [] ?_
    refine jx ⟨o.firm,o.sign,2⟩ _ (by rw[hN];exact he) (by rw[hg]) fun b=> ?_
    refine YQ env false 1 [] ?_
    refine wQ [0,1,2,4,6,14,15,16,37] ?_
    refine UL (fun c4=> ?_) (fun c4=> ?_)
    ·cases b with
     |true=>cases c4
     |false=>exact zBt (.inr rfl)
    ·refine zc env false [] [0,1,2,4,14,15,16] ?_ (hp:=(by simp only[zC,bb,toN,loI,hiI];repeat' first|exact trivial|exact zI.refl _|exact zH.refl _|exact rfl|omega|apply And.intro|intro _))
     refine zc env false [] [0,1,2,4,14,15,16] ?_ (hp:=(by simp only[zC,bb,toN,loI,hiI];repeat' first|exact trivial|exact zI.refl _|exact zH.refl _|exact rfl|omega|apply And.intro|intro _))
     cases b with
     |false=>cases c4
     |true=>exact Qn (pre++ [⟨o.firm,o.sign,2⟩],⟨(c.v.now.signs.getD (links.getD k default).toNat default).to_,links.getD k default,2⟩,k+1) ⟨hk2,by dsimp only;rw[List.append_assoc];exact he⟩ (hm:=by dsimp only;omega)
   ·rw[if_neg (show ¬JG c (links.getD k default) (JP links)=2 from c3)]at he
    refine zc env false [] [0,1,2,4,14,15,16] ?_ (hp:=(by simp only[zC,bb,toN,loI,hiI];repeat' first|exact trivial|exact zI.refl _|exact zH.refl _|exact rfl|omega|apply And.intro|intro _))
    refine zc env false [] [0,1,2,4,14,15,16] ?_ (hp:=(by simp only[zC,bb,toN,loI,hiI];repeat' first|exact trivial|exact zI.refl _|exact zH.refl _|exact rfl|omega|apply And.intro|intro _))
    exact Qn (pre,⟨(c.v.now.signs.getD (links.getD k default).toNat default).to_,links.getD k default,o.state⟩,k+1) ⟨hk2,he⟩ (hm:=by dsimp only;omega)
 ·have e:k=links.length:=by omega
  rw[e,List.drop_length,vg]at he
  refine wR ?_
  refine YQ env false 2 [] ?_
  refine jx o [] (by rw[hN];exact he) (by rw[hg]) fun b=> ?_
  refine wQ [] ?_
  cases b with
  |true=>exact Wd (.inl (congrArg (Prod.mk true) he))
  |false=>exact Wd (.inr rfl)
theorem zJd (c:Crt) (links:List Int):GC Tryz.prog 99 [zXi c,qX links] (.fn (.func 143) [] [.ep (crtC c),.ep [.row default inC links]]):=by
 refine zA Tryz.func99 ?_
 refine gE [2,3] ?_
 refine zv 0 ?_
 refine zv 1 ?_
 refine gE [4] ?_
 refine gT ?_
 rfl
end Go.Gh
