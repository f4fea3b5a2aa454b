/- Walks by the logic of calls, and plain laws. -/
import Derived.Test.YthdmcpbmmgmlcaaDoorGScO
namespace Go.Gh
open Go Go.Proofs
set_option maxRecDepth 1000000
set_option maxHeartbeats 2000000
set_option linter.unusedSimpArgs false
set_option linter.unusedVariables false
open Go.RowKit

abbrev wInv : ByteArray := ⟨#[105, 110, 118, 111, 105, 99, 101]⟩
abbrev wSum : ByteArray := ⟨#[115, 117, 109]⟩
abbrev wPort : ByteArray := ⟨#[112, 111, 114, 116]⟩
abbrev w100 : ByteArray := ⟨#[49, 48, 48]⟩
abbrev w700 : ByteArray := ⟨#[55, 48, 48]⟩
abbrev wKg : ByteArray := ⟨#[107, 103]⟩
abbrev wGen : ByteArray := ⟨#[71, 101, 110, 111, 97]⟩
abbrev t100 : ByteArray := ⟨#[49, 48, 48, 32, 107, 103]⟩
abbrev t700 : ByteArray := ⟨#[55, 48, 48, 32, 107, 103]⟩
abbrev wX : ByteArray := ⟨#[120]⟩

abbrev e0 : ByteArray := ⟨#[]⟩
abbrev exD : Dc := ⟨wInv, [⟨wSum, [[w100, w700], [wKg]]⟩, ⟨wPort, [[wGen]]⟩]⟩
abbrev exX : Dc := ⟨wInv, [⟨wSum, [[w700], [wKg]]⟩, ⟨wPort, [[wGen]]⟩]⟩
theorem exD_few : fewD exD = true := by kernel_rfl
theorem exX_few : fewD exX = true := by kernel_rfl
theorem exD_fit : Fit exD := few_fit exD_few
theorem exX_fit : Fit exX := few_fit exX_few
theorem p1 : GC Tryd.prog 10 [dcG exD] (.tup [iG 2, iG 0]) := by
  have h := count_ok exD exD_fit
  rwa [show countE exD = (2, 0) by kernel_rfl] at h
theorem p2 : GC Tryd.prog 12 [dcG exD, iG 0] (.tup [pnG ⟨wInv, [wSum, wPort], [t100, wGen]⟩, iG 0]) := by
  have h := read_ok exD exD_fit 0
  rwa [show readE exD 0 = (⟨wInv, [wSum, wPort], [t100, wGen]⟩, 0) by kernel_rfl] at h
theorem p3 : GC Tryd.prog 12 [dcG exD, iG 1] (.tup [pnG ⟨wInv, [wSum, wPort], [t700, wGen]⟩, iG 0]) := by
  have h := read_ok exD exD_fit 1
  rwa [show readE exD 1 = (⟨wInv, [wSum, wPort], [t700, wGen]⟩, 0) by kernel_rfl] at h
theorem p4 : GC Tryd.prog 12 [dcG exD, iG 2] (.tup [pnG ⟨e0, [], []⟩, iG 4]) := by
  have h := read_ok exD exD_fit 2
  rwa [show readE exD 2 = (⟨e0, [], []⟩, 4) by kernel_rfl] at h
theorem p5 : GC Tryd.prog 14 [dcG exD, iG 1] (.tup [sG wGen, bG true]) := by
  have h := certain_ok exD exD_fit 1
  rwa [show certE exD 1 = (wGen, true) by kernel_rfl] at h
theorem p6 : GC Tryd.prog 14 [dcG exD, iG 0] (.tup [sG e0, bG false]) := by
  have h := certain_ok exD exD_fit 0
  rwa [show certE exD 0 = (e0, false) by kernel_rfl] at h
theorem p7 : GC Tryd.prog 16 [dcG exD, iG 0, sG t700] (.tup [dcG exX, iG 0]) := by
  have h := set_ok exD exD_fit 0 t700 (by decide)
  rwa [show setE exD 0 t700 = (exX, 0) by kernel_rfl] at h
theorem p8 : GC Tryd.prog 10 [dcG exX] (.tup [iG 1, iG 0]) := by
  have h := count_ok exX exX_fit
  rwa [show countE exX = (1, 0) by kernel_rfl] at h
theorem p9 : GC Tryd.prog 18 [dcG exD, iG 0] (.tup [rowS [t100, t700], iG 0]) := by
  have h := texts_ok exD exD_fit 0
  rwa [show textsE exD 0 = ([t100, t700], 0) by kernel_rfl] at h
theorem p10 : GC Tryd.prog 20 [dcG exD] (iG 0) := by
  have h := check_ok exD exD_fit
  rwa [show checkE exD = 0 by kernel_rfl] at h
theorem p11 (p : Pn) (h1 : p.names.length = 2) (h2 : p.texts.length = 2) : GC Tryd.prog 22 [pnG p, pnG p] (bG true) := by
  have h := samePl_ok p p (by omega) (by omega)
  rwa [decide_eq_true rfl] at h
theorem p12 : GC Tryd.prog 24 [rowS [t100, t700], rowS [t100, t700]] (bG true) := by
  have h := sameT_ok [t100, t700] [t100, t700] (by decide)
  rwa [decide_eq_true rfl] at h
theorem p13 : GC Tryd.prog 25 [dcG exD, iG 0, sG t700] (bG true) := by
  have h := possible_ok exD exD_fit 0 t700 (by decide)
  rwa [show possV exD 0 t700 = true by kernel_rfl] at h
theorem p14 : GC Tryd.prog 25 [dcG exD, iG 0, sG w700] (bG false) := by
  have h := possible_ok exD exD_fit 0 w700 (by decide)
  rwa [show possV exD 0 w700 = false by kernel_rfl] at h
theorem p15 : GC Tryd.prog 27 [dcG exD, sG wPort] (iG 1) := by
  have h := find_ok exD exD_fit wPort
  rwa [show findE exD wPort = 1 by kernel_rfl] at h
theorem p16 : GC Tryd.prog 27 [dcG exD, sG wX] (iG (-1)) := by
  have h := find_ok exD exD_fit wX
  rwa [show findE exD wX = -1 by kernel_rfl] at h

theorem example_ok  : GC Tryd.prog 33 [] (dcG exD) := by
  refine gc_of_gk Tryd.func33 ?_
  refine gk_region env false [] [0] ?_ -- 0
  refine gk_region env false [.el default strC [w100, w700], .el default strC [wKg], .fz, .el default wdC [[w100, w700], [wKg]]] [0, 1] ?_ (hp := (by simp [AllP, obP, andO, rowL, strC, wdC, flC])) -- 1
  refine gk_region env false [.el default strC [wGen], .fz, .el default wdC [[wGen]]] [0, 1, 2] ?_ (hp := (by simp [AllP, obP, andO, rowL, strC, wdC, flC])) -- 2
  refine gk_region env false [.fz, .el default flC [⟨wSum, [[w100, w700], [wKg]]⟩, ⟨wPort, [[wGen]]⟩]] [0] ?_ (hp := (by simp [AllP, obP, andO, rowL, strC, wdC, flC])) -- 3
  refine gk_ret env ?_
  rfl

theorem sane_ok  : GC Tryd.prog 8 [] (bG true) := by
  refine gc_of_gk Tryd.func8 ?_
  refine gk_region env false [] [0] ?_ -- 0
  refine gk_region env false [.call example_ok] [0, 1] ?_ -- 1
  refine gk_region env false [.call p1] [0, 1, 2, 3] ?_ -- 2
  refine gk_region env false [.call p2] [0, 1, 2, 3, 4, 5] ?_ -- 3
  refine gk_region env false [.call p3] [0, 1, 2, 3, 4, 5, 6, 7] ?_ -- 4
  refine gk_region env false [.call p4] [0, 1, 2, 3, 4, 5, 6, 7, 9] ?_ -- 5
  refine gk_region env false [.call p5] [0, 1, 2, 3, 4, 5, 6, 7, 9, 10, 11] ?_ -- 6
  refine gk_region env false [.call p6] [0, 1, 2, 3, 4, 5, 6, 7, 9, 10, 11, 13] ?_ -- 7
  refine gk_region env false [.call p7] [0, 1, 2, 3, 4, 5, 6, 7, 9, 10, 11, 13, 14, 15] ?_ -- 8
  refine gk_region env false [.call p8] [0, 1, 2, 3, 4, 5, 6, 7, 9, 10, 11, 13, 15, 16, 17] ?_ -- 9
  refine gk_region env false [.call p9] [0, 1, 2, 3, 4, 5, 6, 7, 9, 10, 11, 13, 15, 16, 17, 18, 19] ?_ -- 10
  refine gk_region env false [.call p10] [0, 1, 2, 4, 6, 10, 11, 13, 16, 18, 99] ?_ -- 11
  refine gk_if (fun c1 => ?_) (fun c1 => ?_)
  · try simp only [bb, toN] at c1
    exact absurd c1 (by decide)
  · try simp only [bb, toN] at c1
    refine gk_region env false [.el default strC [wSum, wPort]] [0, 1, 2, 4, 6, 10, 11, 13, 16, 18, 20] ?_ (hp := (by simp [AllP, obP, andO, rowL, strC, wdC, flC]; repeat' first | exact trivial | exact EntL.refl _ | exact rfl | apply And.intro | decide)) -- 13
    refine gk_region env false [.el default strC [t100, wGen], .call (p11 ⟨wInv, [wSum, wPort], [t100, wGen]⟩ rfl rfl), .el default strC [t700, wGen], .call (p11 ⟨wInv, [wSum, wPort], [t700, wGen]⟩ rfl rfl)] [0, 1, 2, 10, 11, 13, 16, 18, 21] ?_ (hp := (by simp [AllP, obP, andO, rowL, strC, wdC, flC]; repeat' first | exact trivial | exact EntL.refl _ | exact rfl | apply And.intro | decide)) -- 14
    refine gk_region env false [.el default strC [t100, t700], .call p12] [0, 1, 21, 22] ?_ (hp := (by simp [AllP, obP, andO, rowL, strC, wdC, flC]; repeat' first | exact trivial | exact EntL.refl _ | exact rfl | apply And.intro | decide)) -- 15
    refine gk_region env false [.call p13, .call p14, .call p15, .call p16] [0] ?_ -- 16
    refine gk_ret env ?_
    rfl
end Go.Gh
