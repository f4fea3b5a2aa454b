/- Walks by the logic of calls, and plain laws (several texts in one). -/
import Derived.Shelf.Small.Bits
import Derived.Shelf.Small.Wraps
import Derived.Shelf.Strconv.Itoa0
import Derived.Shelf.Sort.Plain
import Derived.Shelf.Strings.Fields
import Derived.Shelf.LaysM
import Derived.Shelf.Strings.SplitShaped
import Derived.Shelf.Unicode.Latin
import Derived.Shelf.Bits.Mul64
import Derived.Shelf.Unicode.Is16White
import Derived.Shelf.Unicode.IsSpaceAny
import Derived.Shelf.Unicode.Is16WhiteD
import Derived.Shelf.Unicode.IsSpaceAnyD
import Derived.Shelf.Strings.FieldsAny
import Derived.Shelf.Strings.FieldsFuncAny
import Derived.Shelf.Unicode.Is16Any
import Derived.Shelf.Unicode.Is32Any
import Derived.Shelf.Unicode.ExclAny
import Derived.Shelf.Strings.FieldsFuncGrows
import Derived.Shelf.Slices.Turned
import Derived.Ground.Names2Prog
import Derived.Shelf.Slices.CompactI
import Derived.Shelf.Slices.SearchI
import Derived.Shelf.Slices.Cells
import Derived.Shelf.Slices.In.SortNone
import Derived.Test.YtjnjegclenjlbaaGreatDoorProg
import Derived.Test.YtjnjegclenjlbaaGreatDoorM2
import Derived.Test.YtjnjegclenjlbaaGreatDoorGh3
import Derived.Test.YtjnjegclenjlbaaGreatDoorGh4
import Derived.WalkKit
import Derived.WalkSpells
import Derived.WalkLawsBesides
import Derived.Handy
import Derived.Deep.RegionLaw
import Derived.Deep.QuietTactic
import Derived.Deep.DeepCutAuto
import Derived.Lib.Hide
import Derived.Laws.CopyOwn
import Derived.OwnWalk
namespace Go.Proofs
open Go.Shelf
def Tryz.lays125_ren:Go.Shelf.Ren:=⟨fun|125=>51|128=>95|129=>96|n=>n,fun|46=>118|3=>3|51=>188|53=>190|4=>4|5=>5|9=>9|n=>n,fun|n=>n⟩
theorem Tryz.lays125:Go.Proofs.Lays.n125 Tryz.prog Tryz.lays125_ren:= {
 mixed:=by kernel_rfl
 f125:=Tryz.func51.trans (congrArg some (by kernel_rfl))
 f128:=Tryz.func95.trans (congrArg some (by kernel_rfl))
 f129:=Tryz.func96.trans (congrArg some (by kernel_rfl))
 t3:=Tryz.underlying3
 a3:=Tryz.isAgg3
 z3:=Tryz.sizeOf3
 v3:=Tryz.zeroValue3
 t4:=Tryz.underlying4
 a4:=Tryz.isAgg4
 z4:=Tryz.sizeOf4
 v4:=Tryz.zeroValue4
 t5:=Tryz.underlying5
 a5:=Tryz.isAgg5
 z5:=Tryz.sizeOf5
 v5:=Tryz.zeroValue5
 t9:=Tryz.underlying9
 a9:=Tryz.isAgg9
 z9:=Tryz.sizeOf9
 v9:=Tryz.zeroValue9
 t46:=Tryz.underlying118
 a46:=Tryz.isAgg118
 z46:=Tryz.sizeOf118
 v46:=Tryz.zeroValue118
 t51:=Tryz.underlying188
 a51:=Tryz.isAgg188
 z51:=Tryz.sizeOf188
 v51:=Tryz.zeroValue188
 t53:=Tryz.underlying190
 a53:=Tryz.isAgg190
 z53:=Tryz.sizeOf190
 v53:=Tryz.zeroValue190}
theorem Tryz.bits_Len (x:Int) (w:World) (h0:0≤x) (h1:x≤18446744073709551615):
 Calls Tryz.prog 51 #[.int .u64 x] w fun e w'=>e= .returned (.int .i64 (Lib.bitLen x.toNat))∧w'=w:=Any.bits_Len Tryz.lays125 x w h0 h1
def Tryz.lays189_ren:Go.Shelf.Ren:=⟨fun|189=>52|125=>51|257=>97|128=>95|129=>96|294=>139|295=>140|296=>141|297=>142|298=>143|299=>144|216=>66|300=>145|301=>146|328=>179|329=>135|330=>136|331=>180|332=>181|215=>105|343=>196|n=>n,fun|28=>35|3=>3|46=>118|0=>0|51=>188|53=>190|4=>4|183=>181|182=>180|131=>185|5=>5|9=>9|218=>230|222=>234|228=>268|229=>269|n=>n,fun|n=>n⟩
theorem Tryz.lays189:Go.Proofs.Lays.n189 Tryz.prog Tryz.lays189_ren:= {
 mixed:=by kernel_rfl
 f125:=Tryz.func51.trans (congrArg some (by kernel_rfl))
 f128:=Tryz.func95.trans (congrArg some (by kernel_rfl))
 f129:=Tryz.func96.trans (congrArg some (by kernel_rfl))
 f189:=Tryz.func52.trans (congrArg some (by kernel_rfl))
 f215:=Tryz.func105.trans (congrArg some (by kernel_rfl))
 f216:=Tryz.func66.trans (congrArg some (by kernel_rfl))
 f257:=Tryz.func97.trans (congrArg some (by kernel_rfl))
 f294:=Tryz.func139.trans (congrArg some (by kernel_rfl))
 f295:=Tryz.func140.trans (congrArg some (by kernel_rfl))
 f296:=Tryz.func141.trans (congrArg some (by kernel_rfl))
 f297:=Tryz.func142.trans (congrArg some (by kernel_rfl))
 f298:=Tryz.func143.trans (congrArg some (by kernel_rfl))
 f299:=Tryz.func144.trans (congrArg some (by kernel_rfl))
 f300:=Tryz.func145.trans (congrArg some (by kernel_rfl))
 f301:=Tryz.func146.trans (congrArg some (by kernel_rfl))
 f328:=Tryz.func179.trans (congrArg some (by kernel_rfl))
 f329:=Tryz.func135.trans (congrArg some (by kernel_rfl))
 f330:=Tryz.func136.trans (congrArg some (by kernel_rfl))
 f331:=Tryz.func180.trans (congrArg some (by kernel_rfl))
 f332:=Tryz.func181.trans (congrArg some (by kernel_rfl))
 f343:=Tryz.func196.trans (congrArg some (by kernel_rfl))
 t0:=Tryz.underlying0
 a0:=Tryz.isAgg0
 z0:=Tryz.sizeOf0
 v0:=Tryz.zeroValue0
 t3:=Tryz.underlying3
 a3:=Tryz.isAgg3
 z3:=Tryz.sizeOf3
 v3:=Tryz.zeroValue3
 t4:=Tryz.underlying4
 a4:=Tryz.isAgg4
 z4:=Tryz.sizeOf4
 v4:=Tryz.zeroValue4
 t5:=Tryz.underlying5
 a5:=Tryz.isAgg5
 z5:=Tryz.sizeOf5
 v5:=Tryz.zeroValue5
 t9:=Tryz.underlying9
 a9:=Tryz.isAgg9
 z9:=Tryz.sizeOf9
 v9:=Tryz.zeroValue9
 t28:=Tryz.underlying35
 a28:=Tryz.isAgg35
 z28:=Tryz.sizeOf35
 v28:=Tryz.zeroValue35
 t46:=Tryz.underlying118
 a46:=Tryz.isAgg118
 z46:=Tryz.sizeOf118
 v46:=Tryz.zeroValue118
 t51:=Tryz.underlying188
 a51:=Tryz.isAgg188
 z51:=Tryz.sizeOf188
 v51:=Tryz.zeroValue188
 t53:=Tryz.underlying190
 a53:=Tryz.isAgg190
 z53:=Tryz.sizeOf190
 v53:=Tryz.zeroValue190
 t131:=Tryz.underlying185
 a131:=Tryz.isAgg185
 z131:=Tryz.sizeOf185
 v131:=Tryz.zeroValue185
 t182:=Tryz.underlying180
 a182:=Tryz.isAgg180
 z182:=Tryz.sizeOf180
 v182:=Tryz.zeroValue180
 t183:=Tryz.underlying181
 a183:=Tryz.isAgg181
 z183:=Tryz.sizeOf181
 v183:=Tryz.zeroValue181
 t218:=Tryz.underlying230
 a218:=Tryz.isAgg230
 z218:=Tryz.sizeOf230
 v218:=Tryz.zeroValue230
 t222:=Tryz.underlying234
 a222:=Tryz.isAgg234
 z222:=Tryz.sizeOf234
 v222:=Tryz.zeroValue234
 t228:=Tryz.underlying268
 a228:=Tryz.isAgg268
 z228:=Tryz.sizeOf268
 v228:=Tryz.zeroValue268
 t229:=Tryz.underlying269
 a229:=Tryz.isAgg269
 z229:=Tryz.sizeOf269
 v229:=Tryz.zeroValue269}
open Go.Sort Go.RowKit in
theorem Tryz.slices_Sort_int (blk off cap:Nat) (zs:List Int) (w:World) (hH:Holds (Value.int .i64) w blk off zs.toArray) (hblk:blk<w.heap.size) (hsz:zs.length<4611686018427387904):
 Calls Tryz.prog 52 #[.slice (some ⟨blk,off,none⟩) zs.length cap] w fun e w'=>
  e= .returned (.tuple #[])∧∃n os,w'=grow (putRow (Value.int .i64) (Sort.ahead w n) blk off (zs.mergeSort fun x y=>decide (x≤y)).toArray) os:=Any.slices_Sort_int Tryz.lays189 blk off cap zs w hH hblk hsz
def Tryz.lays157_ren:Go.Shelf.Ren:=⟨fun|157=>154|229=>185|199=>186|261=>197|311=>202|312=>203|n=>n,fun|9=>9|31=>210|3=>3|5=>5|4=>4|119=>276|0=>0|40=>278|152=>287|21=>21|154=>289|51=>188|141=>291|196=>299|193=>296|198=>302|49=>300|194=>297|201=>305|226=>307|46=>118|227=>308|n=>n,fun|0=>3|6=>4|n=>n⟩
theorem Tryz.lays157:Go.Proofs.Lays.n157 Tryz.prog Tryz.lays157_ren:= {
 mixed:=by kernel_rfl
 f157:=Tryz.func154.trans (congrArg some (by kernel_rfl))
 f199:=Tryz.func186.trans (congrArg some (by kernel_rfl))
 f229:=Tryz.func185.trans (congrArg some (by kernel_rfl))
 f261:=Tryz.func197.trans (congrArg some (by kernel_rfl))
 f311:=Tryz.func202.trans (congrArg some (by kernel_rfl))
 f312:=Tryz.func203.trans (congrArg some (by kernel_rfl))
 t0:=Tryz.underlying0
 a0:=Tryz.isAgg0
 z0:=Tryz.sizeOf0
 v0:=Tryz.zeroValue0
 t3:=Tryz.underlying3
 a3:=Tryz.isAgg3
 z3:=Tryz.sizeOf3
 v3:=Tryz.zeroValue3
 t4:=Tryz.underlying4
 a4:=Tryz.isAgg4
 z4:=Tryz.sizeOf4
 v4:=Tryz.zeroValue4
 t5:=Tryz.underlying5
 a5:=Tryz.isAgg5
 z5:=Tryz.sizeOf5
 v5:=Tryz.zeroValue5
 t9:=Tryz.underlying9
 a9:=Tryz.isAgg9
 z9:=Tryz.sizeOf9
 v9:=Tryz.zeroValue9
 t21:=Tryz.underlying21
 a21:=Tryz.isAgg21
 z21:=Tryz.sizeOf21
 v21:=Tryz.zeroValue21
 t31:=Tryz.underlying210
 a31:=Tryz.isAgg210
 z31:=Tryz.sizeOf210
 v31:=Tryz.zeroValue210
 t40:=Tryz.underlying278
 a40:=Tryz.isAgg278
 z40:=Tryz.sizeOf278
 v40:=Tryz.zeroValue278
 t46:=Tryz.underlying118
 a46:=Tryz.isAgg118
 z46:=Tryz.sizeOf118
 v46:=Tryz.zeroValue118
 t49:=Tryz.underlying300
 a49:=Tryz.isAgg300
 z49:=Tryz.sizeOf300
 v49:=Tryz.zeroValue300
 t51:=Tryz.underlying188
 a51:=Tryz.isAgg188
 z51:=Tryz.sizeOf188
 v51:=Tryz.zeroValue188
 t119:=Tryz.underlying276
 a119:=Tryz.isAgg276
 z119:=Tryz.sizeOf276
 t141:=Tryz.underlying291
 a141:=Tryz.isAgg291
 z141:=Tryz.sizeOf291
 v141:=Tryz.zeroValue291
 t152:=Tryz.underlying287
 a152:=Tryz.isAgg287
 z152:=Tryz.sizeOf287
 v152:=Tryz.zeroValue287
 t154:=Tryz.underlying289
 a154:=Tryz.isAgg289
 z154:=Tryz.sizeOf289
 v154:=Tryz.zeroValue289
 t193:=Tryz.underlying296
 a193:=Tryz.isAgg296
 z193:=Tryz.sizeOf296
 v193:=Tryz.zeroValue296
 t194:=Tryz.underlying297
 a194:=Tryz.isAgg297
 z194:=Tryz.sizeOf297
 v194:=Tryz.zeroValue297
 t196:=Tryz.underlying299
 a196:=Tryz.isAgg299
 z196:=Tryz.sizeOf299
 v196:=Tryz.zeroValue299
 t198:=Tryz.underlying302
 a198:=Tryz.isAgg302
 z198:=Tryz.sizeOf302
 v198:=Tryz.zeroValue302
 t201:=Tryz.underlying305
 a201:=Tryz.isAgg305
 z201:=Tryz.sizeOf305
 v201:=Tryz.zeroValue305
 t226:=Tryz.underlying307
 a226:=Tryz.isAgg307
 z226:=Tryz.sizeOf307
 v226:=Tryz.zeroValue307
 t227:=Tryz.underlying308
 a227:=Tryz.isAgg308
 z227:=Tryz.sizeOf308
 v227:=Tryz.zeroValue308
 g0:=by kernel_rfl
 g6:=by kernel_rfl}
open Go.RowKit Go.Lib in
theorem Tryz.strings_Fields (s:ByteArray) (w:World) (hs:s.size<4294967281) (hascii:∀(j:Nat) b,s.data.toList[j]? =some b→b.toNat<128) (htab:Lib.TabIs Tryz.prog w "strings.asciiSpace" .u8 Lib.asciiSpaceTab):
 Calls Tryz.prog 154 #[.string s] w fun e w'=>
  e= .returned (.slice (some ⟨w.heap.size,0,none⟩) (Lib.fields s.data.toList).length (Lib.fields s.data.toList).length)∧w'=w.alloc (.cells ((Lib.fields s.data.toList).map fun l=>Value.string ⟨l.toArray⟩).toArray 9):=Any.strings_Fields Tryz.lays157 (by kernel_rfl) (by kernel_rfl) s w hs hascii htab
def Tryz.lays264_ren:Go.Shelf.Ren:=⟨fun|264=>128|n=>n,fun|53=>190|46=>118|n=>n,fun|n=>n⟩
theorem Tryz.lays264:Go.Proofs.Lays.n264 Tryz.prog Tryz.lays264_ren:= {
 mixed:=by kernel_rfl
 f264:=Tryz.func128.trans (congrArg some (by kernel_rfl))
 t46:=Tryz.underlying118
 a46:=Tryz.isAgg118
 z46:=Tryz.sizeOf118
 v46:=Tryz.zeroValue118
 t53:=Tryz.underlying190
 a53:=Tryz.isAgg190
 z53:=Tryz.sizeOf190
 v53:=Tryz.zeroValue190}
open Go.RowKit Go.Lib in
theorem Tryz.bits_Mul64 (x y:Nat) (hx:x<18446744073709551616) (hy:y<18446744073709551616) (w:World):
 Calls Tryz.prog 128 #[.int .u64 x,.int .u64 y] w fun e w'=>e= .returned (.tuple #[.int .u64 ((x*y/18446744073709551616:Nat):Int),.int .u64 ((x*y % 18446744073709551616:Nat):Int)])∧w'=w:=Any.bits_Mul64 Tryz.lays264 x y hx hy w
def Tryz.lays212_ren:Go.Shelf.Ren:=⟨fun|212=>151|263=>184|264=>128|n=>n,fun|46=>118|51=>188|146=>274|53=>190|148=>221|n=>n,fun|n=>n⟩
theorem Tryz.lays212:Go.Proofs.Lays.n212 Tryz.prog Tryz.lays212_ren:= {
 mixed:=by kernel_rfl
 f212:=Tryz.func151.trans (congrArg some (by kernel_rfl))
 f263:=Tryz.func184.trans (congrArg some (by kernel_rfl))
 f264:=Tryz.func128.trans (congrArg some (by kernel_rfl))
 t46:=Tryz.underlying118
 a46:=Tryz.isAgg118
 z46:=Tryz.sizeOf118
 v46:=Tryz.zeroValue118
 t51:=Tryz.underlying188
 a51:=Tryz.isAgg188
 z51:=Tryz.sizeOf188
 v51:=Tryz.zeroValue188
 t53:=Tryz.underlying190
 a53:=Tryz.isAgg190
 z53:=Tryz.sizeOf190
 v53:=Tryz.zeroValue190
 t146:=Tryz.underlying274
 a146:=Tryz.isAgg274
 z146:=Tryz.sizeOf274
 v146:=Tryz.zeroValue274
 t148:=Tryz.underlying221
 a148:=Tryz.isAgg221
 z148:=Tryz.sizeOf221
 v148:=Tryz.zeroValue221}
open Go.RowKit Go.Lib in
theorem Tryz.bits_Mul (x y:Nat) (hx:x<18446744073709551616) (hy:y<18446744073709551616) (w:World):
 Calls Tryz.prog 151 #[.int .u64 x,.int .u64 y] w fun e w'=>e= .returned (.tuple #[.int .u64 ((x*y/18446744073709551616:Nat):Int),.int .u64 ((x*y % 18446744073709551616:Nat):Int)])∧w'=w:=Any.bits_Mul Tryz.lays212 x y hx hy w
def Tryz.laysNm220_ren:Go.Shelf.Ren:=⟨fun|20=>53|n=>n,fun|22=>35|3=>3|4=>4|0=>0|n=>n,fun|n=>n⟩
theorem Tryz.laysNm220:Go.Proofs.Lays2.n20 Tryz.prog Tryz.laysNm220_ren:= {
 mixed:=by kernel_rfl
 f20:=Tryz.func53.trans (congrArg some (by kernel_rfl))
 t0:=Tryz.underlying0
 a0:=Tryz.isAgg0
 z0:=Tryz.sizeOf0
 v0:=Tryz.zeroValue0
 t3:=Tryz.underlying3
 a3:=Tryz.isAgg3
 z3:=Tryz.sizeOf3
 v3:=Tryz.zeroValue3
 t4:=Tryz.underlying4
 a4:=Tryz.isAgg4
 z4:=Tryz.sizeOf4
 v4:=Tryz.zeroValue4
 t22:=Tryz.underlying35
 a22:=Tryz.isAgg35
 z22:=Tryz.sizeOf35
 v22:=Tryz.zeroValue35
 i3:=by kernel_rfl}
open Go.RowKit Go.Lib Go.Sort in
theorem Tryz.slices_Compact_int (blk off cap:Nat) (zs:List Int) (w:World) (hH:Holds (Value.int .i64) w blk off zs.toArray) (hsz:zs.length≤9223372036854775807) (hcap:zs.length≤cap):
 Calls Tryz.prog 53 #[.slice (some ⟨blk,off,none⟩) zs.length cap] w fun e w'=>e= .returned (.slice (some ⟨blk,off,none⟩) (Lib.compact zs).length cap)∧∃q,w'=putRow (Value.int .i64) (Sort.ahead w q) blk off (Lib.compact zs++List.replicate (zs.length-(Lib.compact zs).length) 0).toArray:=Any.slices_Compact_int Tryz.laysNm220 blk off cap zs w hH hsz hcap
open Go.RowKit Go.Lib Go.Sort in
theorem Tryz.slices_Compact_int_empty (a:Option Addr) (cap:Nat) (w:World):
 Calls Tryz.prog 53 #[.slice a 0 cap] w fun e w'=>e= .returned (.slice a 0 cap)∧w'=w:=Any.slices_Compact_int_empty Tryz.laysNm220 a cap w
open Go.RowKit Go.Sort in
theorem Tryz.slices_Sort_int_none (p:Option Addr) (cap:Nat) (w:World):
 Calls Tryz.prog 52 #[.slice p 0 cap] w fun e w'=>e= .returned (.tuple #[])∧w'=w:=Any.slices_Sort_int_none Tryz.lays189 p cap w
end Go.Proofs
namespace Go.Gh
open Go Go.Proofs
set_option maxRecDepth 1000000
set_option maxHeartbeats 2000000
set_option linter.unusedSimpArgs false
set_option linter.unusedVariables false
set_option linter.unnecessarySimpa false
open Go.RowKit Go.Proofs
section
variable {w w':World} {g B:Nat} {cs:Array Value} {t:TypeId} {fr:Nat×Nat}
theorem blk_lt {o:Obj} (h:w.heap[g]? =some o):g<w.heap.size:=(Array.getElem?_eq_some_iff.1 h).1
theorem blk_cell (h:w.heap[g]? =some (.cells cs t fr)) {j:Nat} {u:Value} (hj:cs[j]? =some u):w.cell? ⟨g,j,none⟩=some u:=by
 simp only[World.cell?,h];simpa using hj
end
section
variable {P:Program} {ops:Array Oper} {rest:List Oper} {o:Oper} {a:Act} {Q:Exit→Act→World→Prop} {w:World}
theorem make_ones {t e:TypeId} {z:Value} {bytes:Nat} (ht:P.underlying t=some (.slice e)) (hi:(P.info? e).map (fun i=>(i.zero,i.size,i.bytes))=some (some z,1,bytes)) (hz:z.cells.size=1) (n:Nat) (hb:bytes*n≤281474976710656) (hn:n≤4611686018427387904)
 (hg:o.guard=none) (l c:Operand) (hop:o.op= .makeSlice t l c) (hl:a.eval l= .int .i64 n) (hc:a.eval c= .int .i64 n)
 (h:∀w' cur,Hid (w'.heap[w.heap.size]? =some (.cells cur e (0,0)))→Hid (cur.size=n)→Hid (Below w.heap.size w w')→w.heap.size<w'.heap.size→wpList P ops Q rest (a.put o.dst (.slice (some ⟨w.heap.size,0,none⟩) n n)) w'):
 wpList P ops Q (o::rest) a w:=by
 obtain ⟨i0,hi,hz0,hz1,hz2⟩:=info_parts hi
 refine wpList_make_full w hg l c t hop w.heap.size e i0 z 1 ht hi hz0 hz1 .i64 .i64 n n n hl hc rfl rfl (by rw[hz2];exact hb) (by unfold maxLen;omega) (Nat.le_refl _) ?_
 intro w' hown hgrow
 rcases hown.2 with ⟨h1,_⟩|⟨g,cap,cur,h1,_,h2,_,_,h3,_⟩
 ·cases h1
 ·injection h1 with h1 h4 h5
  injection h1 with h1
  injection h1 with h1
  subst h1;subst h5
  have hlt:=blk_lt h2
  exact h w' cur (Lib.hid h2) (Lib.hid (by simpa using h3)) (Lib.hid ((Below.refl _ w).grown hgrow (Nat.le_refl _) (fun j hj=>by cases hj))) hlt
end
theorem int_info:(Tryz.prog.info? 3).map (fun i=>(i.zero,i.size,i.bytes))=some (some (.int .i64 0),1,8):=by kernel_rfl
theorem mul_one (n:Nat) (hn:n≤1000) (w:World):Calls Tryz.prog 151 #[.int .u64 1,.int .u64 n] w fun e w'=>e= .returned (.tuple #[.int .u64 0,.int .u64 n])∧w=w':=by
 refine (Tryz.bits_Mul 1 n (by omega) (by omega) w).mono ?_
 rintro e w' ⟨rfl,rfl⟩
 refine ⟨?_,rfl⟩
 rw[Nat.one_mul,Nat.div_eq_of_lt (by omega),Nat.mod_eq_of_lt (by omega)]
 rfl
def Filled (w wr:World) (g n k:Nat) (s:Int):Prop:=
 ∃rest:List Value,wr.heap[g]? =some (.cells (List.replicate k (Value.int .i64 s)++rest).toArray 3 (0,0))∧k+rest.length=n∧Below w.heap.size w wr∧w.heap.size≤g
theorem Filled.drew {w wr:World} {g n k:Nat} {s:Int} (h:Filled w wr g n k s):Filled w wr.drew g n k s:=by
 obtain ⟨rest,r1,r2,r3,r4⟩:=h
 exact ⟨rest,r1,r2,r3.drew,r4⟩
theorem copy_first {ops:Array Oper} {rest:List Oper} {o:Oper} {a:Act} {Q:Exit→Act→World→Prop} {w w3:World} {s:Int} {n b off c:Nat} (h1:1≤n) (hb:b<w.heap.size) (HC:Hid (w.cell? ⟨b,off,none⟩=some (.int .i64 s)))
 {cur:Array Value} (HC3:Hid (w3.heap[w.heap.size]? =some (.cells cur 3 (0,0)))) (HL:Hid (cur.size=n)) (HB3:Hid (Below w.heap.size w w3))
 (hgd:o.guard=none) (d x:Operand) (ho:o.op= .call {callee:= .builtin .copy,args:= #[d,x],argTypes:= #[35,35]}) (hd:a.eval d= .slice (some ⟨w.heap.size,0,none⟩) n n) (hx:a.eval x= .slice (some ⟨b,off,none⟩) 1 c)
 (h:∀w',Hid (Filled w w' w.heap.size n 1 s)→wpList Tryz.prog ops Q rest (a.put o.dst (goInt 1)) w'):wpList Tryz.prog ops Q (o::rest) a w3:=by
 have hl:=HL.out
 refine wpList_copy_splice hgd d x 35 35 ho 3 Tryz.underlying35 (by kernel_rfl) _ _ n n 1 c hd hx w.heap.size 0 cur.toList 3 (by rw[Array.toArray_toList];exact HC3.out) [.int .i64 s] (Nat.min_eq_left h1).symm ?_ (by simp;omega) ?_ w.heap.size w HB3.out (Nat.le_refl _) ?_
 ·intro _
  refine ⟨rfl,_,rfl,fun j v hj=> ?_⟩
  match j,hj with
  |0,hj=>
   injection hj with hj
   subst hj
   exact (HB3.out.cell (p:=⟨b,off,none⟩) hb).trans HC.out
 ·intro v hv;simp at hv;subst hv;rfl
 ·intro w' k1 k2
  exact h w' (Lib.hid ⟨cur.toList.drop 1,by have:=k1.out;simpa [splice]using this,by simp;omega,k2,Nat.le_refl _⟩)
theorem copy_more {ops:Array Oper} {o:Oper} {a:Act} {K:Act→World→Prop} {Q:Exit→Act→World→Prop} {E:Prop} {w wr:World} {s:Int} {g n k:Nat} (HK:Hid (Filled w wr g n k s)) (hk:k<n) (m:Nat) (hm:Hid (m=min k (n-k)))
 (hgd:o.guard=none) (d x:Operand) (ho:o.op= .call {callee:= .builtin .copy,args:= #[d,x],argTypes:= #[35,35]}) (c1 c2:Nat) (hd:a.eval d= .slice (some ⟨g,k,none⟩) (n-k) c1) (hx:a.eval x= .slice (some ⟨g,0,none⟩) k c2)
 (h:∀w',Hid (Filled w w' g n (k+m) s)→K (a.put o.dst (goInt m)) w'):if Region.wanted o (yielded ops a.tmps)=true then Oper.wp Tryz.prog o a wr K Q else E:=by
 obtain ⟨rest,r1,r2,r3,r4⟩:=HK.out
 have hm':=hm.out
 have hle:m≤k:=by omega
 have hle2:m≤n-k:=by omega
 refine step_copy_splice hgd d x 35 35 ho 3 Tryz.underlying35 (by kernel_rfl) _ _ _ _ _ _ hd hx g k _ 3 r1 (List.replicate m (.int .i64 s)) (by rw[List.length_replicate];exact hm') ?_ ?_ ?_ w.heap.size w r3 r4 ?_
 ·intro _
  refine ⟨rfl,_,rfl,fun j v hj=> ?_⟩
  rw[List.getElem?_replicate]at hj
  split at hj
  ·injection hj with hj
   subst hj
   have hadd:(⟨g,0,none⟩:Addr).add j=⟨g,j,none⟩:=by unfold Addr.add;split<;>simp_all
   rw[hadd]
   refine blk_cell r1 ?_
   rw[List.getElem?_toArray,List.getElem?_append_left (by simp;omega),List.getElem?_replicate,if_pos (by omega)]
  ·cases hj
 ·simp;omega
 ·intro v hv;rw[List.mem_replicate]at hv;rw[hv.2];rfl
 ·intro w' k1 k2
  rw[List.length_replicate]
  refine h w' (Lib.hid ⟨rest.drop m,?_,by simp;omega,k2,r4⟩)
  have:=k1.out
  have e:splice (List.replicate k (Value.int .i64 s)++rest) k (List.replicate m (Value.int .i64 s))=List.replicate (k+m) (Value.int .i64 s)++rest.drop m:=by
   unfold splice
   rw[List.length_replicate,List.take_append_of_le_length (by simp),List.take_of_length_le (by simp),List.drop_append,List.drop_eq_nil_of_le (by simp),List.nil_append,List.length_replicate,Nat.add_sub_cancel_left,←List.append_assoc,List.replicate_append_replicate]
  rw[e]at this
  exact this
set_option maxHeartbeats 4000000 in
theorem srepeat_any (s:Int) (n b off c:Nat) (w:World) (h1:1≤n) (hn:n≤1000) (hb:b<w.heap.size) (hc:w.cell? ⟨b,off,none⟩=some (.int .i64 s)):
 Calls Tryz.prog 106 #[.slice (some ⟨b,off,none⟩) 1 c,.int .i64 n] w fun e w'=>∃g,e= .returned (.slice (some ⟨g,0,none⟩) n n)∧Filled w w' g n n s:=by
 have HM:=Lib.hid (mul_one n hn)
 have HC:=Lib.hid hc
 have u1:IntKind.u64.wrap (n:Int)=n:=by rw[IntKind.wrap_u64];omega
 have u2:IntKind.i64.wrap (n:Int)=n:=by rw[IntKind.wrap_i64];omega
 clear hc
 go_enter Tryz.func106,Tryz.ntmps106
 go_wp2_with fail
 refine (HM.out _).mono ?_
 rintro e w1 ⟨rfl,rfl⟩
 go_wp2_with (first
  |(at_make;refine make_ones Tryz.underlying35 int_info rfl n (by omega) (by omega) rfl _ _ rfl rfl rfl ?_;intro w3 cur HC3 HL HB3 hz3)
  |(refine copy_first h1 hb HC HC3 HL HB3 rfl (.tmp 31) (.tmp 32) rfl rfl rfl ?_;intro w4 HF))
 go_loopw [8] (fun i wr=>∃k:Nat,i= .int .i64 k∧1≤k∧k≤n∧Hid (Filled w wr w.heap.size n k s)) (fun i _=>n-(RowKit.intOf i).toNat)
 case atStart=>exact ⟨1,rfl,by omega,h1,HF⟩
 case round=>
  obtain ⟨k,rfl,hk1,hk,HK⟩:=hrel
  by_cases hlt:k<n
  ·obtain ⟨m,hm⟩:∃m,m=min k (n-k):=⟨_,rfl⟩
   have hm1:1≤m:=by omega
   have hm2:m≤k:=by omega
   have hm3:k+m≤n:=by omega
   have HM2:=Lib.hid hm
   clear hm
   have hne:¬n=k:=by omega
   go_wp2_with fail
   have HKd:=Lib.hid HK.out.drew
   have w1:IntKind.i64.wrap ((k:Int)+m)=(k:Int)+m:=by rw[IntKind.wrap_i64];omega
   go_region_law (refine copy_more HKd hlt m HM2 rfl (.tmp 41) (.tmp 44) rfl (n-k) n (by simp[go_sem]) (by simp[go_sem]) ?_;intro w5 HF5)
   clear u1 u2
   simp only[List.getElem_toArray,List.getElem_cons_succ,List.getElem_cons_zero,w1]
   clear w1
   go_frame
   go_roundw
   case rel=>exact ⟨.int .i64 ((k:Int)+m),_,_,_,_,_,_,_,_,_,_,_,_,_,⟨k+m,by go_num,by omega,hm3,HF5⟩,rfl⟩
   case measure=>simp[RowKit.intOf];omega
  ·obtain rfl:n=k:=by omega
   go_wp2_with fail
   go_ret
   exact ⟨w.heap.size,rfl,HK.out⟩
theorem repeat_ok (n:Nat) (h1:1≤n) (h:n≤1000):GM Tryz.prog 106 [.d (.row (0:Int) inC [-1]),iG n] [] (.sl 0 1 0 n) [some (.row 3 1 (0:Int) inC (List.replicate n (-1)) 0)]:=by
 refine ⟨⟨_,_,Tryz.func106,rfl,rfl⟩,fun ν F w vs hr hν hv=> ?_⟩
 obtain ⟨u0,rfl,hu⟩:∃u,vs= #[u,.int .i64 n]∧VR ν F w (.d (.row (0:Int) inC [-1])) u:=by
  obtain ⟨l⟩:=vs
  match l,hv.1 with
  | [u,u2],_=>
    have h2:=(hv.2 1 _ u2 rfl rfl).sc_eq.1
    subst h2
    exact ⟨u,rfl,hv.2 0 _ u rfl rfl⟩
 cases hu with
 |d hu=>
 cases hu with
 |row _ _ _ A c b off es val hA hc hl hw hF hd=>
 have hes:1=es:=hl (-1) (by simp)
 subst hes
 obtain rfl:=hA (by simp)
 have hc0:=hw 0 (-1) 0 _ rfl rfl
 have hv0:=hd 0 (-1) 0 _ rfl rfl
 have hlt:=hr.old_lt (hF 0 (-1) 0 _ rfl rfl)
 generalize val 0 0=u at hc0 hv0
 cases hv0
 refine (srepeat_any (-1) n b off c w h1 h hlt (by simpa using hc0)).mono ?_
 rintro e w' ⟨g,rfl,rest,r1,r2,r3,r4⟩
 obtain rfl:rest= []:=List.length_eq_zero_iff.1 (by omega)
 rw[List.append_nil]at r1
 have hlook:∀blk:Blk,look [(0,some blk)] (hpF [])=hpR [some blk]:=fun blk=>by
  funext i
  match i with
  |0=>rfl
  |i+1=>rfl
 have hbr:BR (addNu ν 0 g n) F w' (some (g,n)) (.row 3 1 (0:Int) inC (List.replicate n (-1)) 0):=by
  refine .inr ⟨g,n,_,rfl,r1,by unfold maxLen;omega,by simp,by simp,fun e he=>rfl,fun u hu=> ?_,fun i e j x u a1 a2 a3=> ?_,fun o=>⟨fun ho=>by have:=hr.old_lt ho;omega,fun ho=>by omega⟩,Nat.zero_le _⟩
  ·simp at hu
   obtain ⟨_,rfl⟩:=hu
   rfl
  ·match j with
   |0=>
    cases a2
    rw[List.getElem?_replicate]at a1
    split at a1
    ·cases a1
     rw[Nat.mul_one,Nat.add_zero,List.getElem?_toArray,List.getElem?_replicate,if_pos (by assumption)]at a3
     cases a3
     exact .sc _ rfl
    ·cases a1
   |j+1=>cases a2
 obtain ⟨q1,q2⟩:=hr.fresh r3 (nx:=0) (hν 0 (Nat.zero_le _)) rfl r4 hbr
 refine ⟨addNu ν 0 g n,F,_,rfl,?_,hlook _▸q1,fun i hi=>absurd hi (by simp),fun i hi=> ?_,hlook _▸q2⟩
 ·exact .sl 0 1 0 n _ _ (fun _=>⟨g,n,addNu_same _ _ _ _,rfl,by omega,by omega⟩) (fun _ _=> .inl ⟨g,n,addNu_same _ _ _ _,rfl,rfl⟩) (Nat.le_refl _)
 ·rw[addNu_other ν (by simp at hi;omega)];exact hν i (by simp)
end Go.Gh
