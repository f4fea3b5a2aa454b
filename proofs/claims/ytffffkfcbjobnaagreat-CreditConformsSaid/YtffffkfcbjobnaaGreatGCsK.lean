/- Walks by the logic of calls, and plain laws. -/
import Derived.Test.YtffffkfcbjobnaaGreatGCsI
namespace Go.Gh
open Go Go.Proofs
set_option maxRecDepth 1000000
set_option maxHeartbeats 2000000
set_option linter.unusedSimpArgs false
set_option linter.unusedVariables false
set_option linter.unnecessarySimpa false
set_option linter.unusedSectionVars false
variable [PowTab]
open Go.RowKit

abbrev smalls : ByteArray := ⟨#[48, 48, 48, 49, 48, 50, 48, 51, 48, 52, 48, 53, 48, 54, 48, 55, 48, 56, 48, 57, 49, 48, 49, 49, 49, 50, 49, 51, 49, 52, 49, 53, 49, 54, 49, 55, 49, 56, 49, 57, 50, 48, 50, 49, 50, 50, 50, 51, 50, 52, 50, 53, 50, 54, 50, 55, 50, 56, 50, 57, 51, 48, 51, 49, 51, 50, 51, 51, 51, 52, 51, 53, 51, 54, 51, 55, 51, 56, 51, 57, 52, 48, 52, 49, 52, 50, 52, 51, 52, 52, 52, 53, 52, 54, 52, 55, 52, 56, 52, 57, 53, 48, 53, 49, 53, 50, 53, 51, 53, 52, 53, 53, 53, 54, 53, 55, 53, 56, 53, 57, 54, 48, 54, 49, 54, 50, 54, 51, 54, 52, 54, 53, 54, 54, 54, 55, 54, 56, 54, 57, 55, 48, 55, 49, 55, 50, 55, 51, 55, 52, 55, 53, 55, 54, 55, 55, 55, 56, 55, 57, 56, 48, 56, 49, 56, 50, 56, 51, 56, 52, 56, 53, 56, 54, 56, 55, 56, 56, 56, 57, 57, 48, 57, 49, 57, 50, 57, 51, 57, 52, 57, 53, 57, 54, 57, 55, 57, 56, 57, 57]⟩

def u8C (c : Int) : List D := [.sc (.int .u8 c)]
def smV (i : Int) : Int := byteAt smalls i.toNat
def wrL (l : List Int) (k v : Int) : List Int := l.set (1 + k.toNat) v
def fm1 (k : Int) (x : Int) (l : List Int) : List Int := if 0 < k then wrL l 0 (IntKind.u8.wrap (IntKind.u32.wrap (48 + x))) else l
def fm2 (k : Int) (x : Int) (l : List Int) : List Int := if 2 ≤ k then fm1 (k - 2) (x / 100) (wrL (wrL l (k - 1) (smV (x % 100 * 2 + 1))) (k - 2) (smV (x % 100 * 2))) else fm1 k x l
def fm4 (k : Int) (x : Int) (l : List Int) : List Int := if 4 ≤ k then fm2 (k - 4) (x / 10000) (wrL (wrL (wrL (wrL l (k - 1) (smV (x % 10000 % 100 * 2 + 1))) (k - 2) (smV (x % 10000 % 100 * 2))) (k - 3) (smV (x % 10000 / 100 * 2 + 1))) (k - 4) (smV (x % 10000 / 100 * 2))) else fm2 k x l
def oct (k v : Int) (l : List Int) : List Int :=
  wrL (wrL (wrL (wrL (wrL (wrL (wrL (wrL l (k - 1) (smV (v % 100000000 % 10000 % 100 * 2 + 1))) (k - 2) (smV (v % 100000000 % 10000 % 100 * 2))) (k - 3) (smV (v % 100000000 % 10000 / 100 * 2 + 1))) (k - 4) (smV (v % 100000000 % 10000 / 100 * 2)))
    (k - 5) (smV (v % 100000000 / 10000 % 100 * 2 + 1))) (k - 6) (smV (v % 100000000 / 10000 % 100 * 2))) (k - 7) (smV (v % 100000000 / 10000 / 100 * 2 + 1))) (k - 8) (smV (v % 100000000 / 10000 / 100 * 2))
def fm8 (k : Nat) (v : Int) (l : List Int) : List Int := if 8 ≤ k then fm8 (k - 8) (v / 100000000) (oct k v l) else fm4 k (IntKind.u32.wrap v) l
termination_by k
theorem putU {l : List Int} {i : Nat} {v : Int} : putD (rowL u8C l) i 0 [.sc (.int .u8 v)] = rowL u8C (l.set i v) := by
  by_cases h : i < l.length
  · have e : (rowL u8C l).getD i [] = u8C (l.getD i default) := by
      simp [rowL, List.getD_eq_getElem?_getD, List.getElem?_eq_getElem h]
    rw [putD, e]
    simp only [rowL, List.map_set]
    rfl
  · rw [putD, List.set_eq_of_length_le (by simp [rowL]; omega), List.set_eq_of_length_le (by omega)]
theorem u32_in (v : Int) : 0 ≤ IntKind.u32.wrap v ∧ IntKind.u32.wrap v ≤ 4294967295 := by
  rw [IntKind.wrap_u32]; omega
theorem wrL_len (l : List Int) (k v : Int) : (wrL l k v).length = l.length := by simp [wrL]
theorem sm_size : smalls.size = 200 := by decide
structure FmI (nd : Nat) (u : Int) (l0 : List Int) (k : Nat) (v : Int) (l : List Int) : Prop where
  hk : k ≤ nd
  hv : 0 ≤ v ∧ v ≤ 18446744073709551615
  len : l.length = 24
  eq : fm8 nd u l0 = fm8 k v l

theorem fmt10_ok (nd : Nat) (hn : nd ≤ 20) (u : Int) (hu : 0 ≤ u ∧ u ≤ 18446744073709551615) (l0 : List Int) (hl : l0.length = 24) : GM Tryz.prog 227 [.sl 0 1 1 nd, uG u] [.row 271 1 (0 : Int) u8C l0 0] (.tup []) [some (.row 271 1 (0 : Int) u8C (fm8 nd u l0) 0)] := by
  refine gm_of_gk Tryz.func227 ?_
  refine gk_region env false [] [0, 1, 4] ?_ (hp := (by simp only [AllP, bb, toN, inR, wrL_len, sm_size]; repeat' first | exact trivial | exact Nat.le_refl 1 | omega | exact putU.symm | exact EntL.refl _ | exact Int.lt_of_lt_of_le (b := 200) (by omega) (Int.le_of_eq (by rfl)) | exact rfl | apply And.intro)) -- 0
  refine gk_loop (α := Nat × Int × List Int) (fun x => FmI nd u l0 x.1 x.2.1 x.2.2) (fun x => [(4, iG x.1), (1, uG x.2.1)]) (fun x => [(0, some (.row 271 1 (0 : Int) u8C x.2.2 0))]) (fun x => x.1) (nd, u, l0) ⟨Nat.le_refl _, hu, hl, rfl⟩ ?_ -- loop 1
  rintro ⟨k, v, l⟩ hI
  dsimp only at *
  have i1 := hI.hk
  have i2 := hI.hv
  have i3 := hI.len
  refine gk_region env false [] [0, 1, 4, 20] ?_ (hp := (by simp only [AllP, bb, toN, inR, wrL_len, sm_size]; repeat' first | exact trivial | exact Nat.le_refl 1 | omega | exact putU.symm | exact EntL.refl _ | exact Int.lt_of_lt_of_le (b := 200) (by omega) (Int.le_of_eq (by rfl)) | exact rfl | apply And.intro)) -- 1
  refine gk_ifd (fun c1 => ?_) (fun c1 => ?_)
  · try simp only [toN] at c1
    refine gk_region env false [] [0, 1, 4, 5] ?_ (hp := (by simp only [AllP, bb, toN, inR, wrL_len, sm_size]; repeat' first | exact trivial | exact Nat.le_refl 1 | omega | exact putU.symm | exact EntL.refl _ | exact Int.lt_of_lt_of_le (b := 200) (by omega) (Int.le_of_eq (by rfl)) | exact rfl | apply And.intro)) -- 2
    refine gk_region env false [] [0, 1, 4, 5] ?_ (hp := (by simp only [AllP, bb, toN, inR, wrL_len, sm_size]; repeat' first | exact trivial | exact Nat.le_refl 1 | omega | exact putU.symm | exact EntL.refl _ | exact Int.lt_of_lt_of_le (b := 200) (by omega) (Int.le_of_eq (by rfl)) | exact rfl | apply And.intro)) -- 3
    refine gk_region env false [] [0, 1, 4, 6, 7] ?_ (hp := (by simp only [AllP, bb, toN, inR, wrL_len, sm_size]; repeat' first | exact trivial | exact Nat.le_refl 1 | omega | exact putU.symm | exact EntL.refl _ | exact Int.lt_of_lt_of_le (b := 200) (by omega) (Int.le_of_eq (by rfl)) | exact rfl | apply And.intro)) -- 4
    refine gk_region env false [] [0, 1, 4, 6, 8, 9] ?_ (hp := (by simp only [AllP, bb, toN, inR, wrL_len, sm_size]; repeat' first | exact trivial | exact Nat.le_refl 1 | omega | exact putU.symm | exact EntL.refl _ | exact Int.lt_of_lt_of_le (b := 200) (by omega) (Int.le_of_eq (by rfl)) | exact rfl | apply And.intro)) -- 5
    refine gk_region env false [] [0, 1, 4, 8, 9, 10, 11] ?_ (hp := (by simp only [AllP, bb, toN, inR, wrL_len, sm_size]; repeat' first | exact trivial | exact Nat.le_refl 1 | omega | exact putU.symm | exact EntL.refl _ | exact Int.lt_of_lt_of_le (b := 200) (by omega) (Int.le_of_eq (by rfl)) | exact rfl | apply And.intro)) -- 6
    refine gk_region env false [.el (0 : Int) u8C (wrL l ((k : Int) - 1) (smV (v % 100000000 % 10000 % 100 * 2 + 1))), .el (0 : Int) u8C (wrL (wrL l ((k : Int) - 1) (smV (v % 100000000 % 10000 % 100 * 2 + 1))) ((k : Int) - 2) (smV (v % 100000000 % 10000 % 100 * 2)))] [0, 1, 4, 8, 10, 11] ?_ (hp := (by simp only [AllP, bb, toN, inR, wrL_len, sm_size]; repeat' first | exact trivial | exact Nat.le_refl 1 | omega | exact putU.symm | exact EntL.refl _ | exact Int.lt_of_lt_of_le (b := 200) (by omega) (Int.le_of_eq (by rfl)) | exact rfl | apply And.intro)) -- 7
    refine gk_region env false [.el (0 : Int) u8C (wrL (wrL (wrL l ((k : Int) - 1) (smV (v % 100000000 % 10000 % 100 * 2 + 1))) ((k : Int) - 2) (smV (v % 100000000 % 10000 % 100 * 2))) ((k : Int) - 3) (smV (v % 100000000 % 10000 / 100 * 2 + 1))), .el (0 : Int) u8C (wrL (wrL (wrL (wrL l ((k : Int) - 1) (smV (v % 100000000 % 10000 % 100 * 2 + 1))) ((k : Int) - 2) (smV (v % 100000000 % 10000 % 100 * 2))) ((k : Int) - 3) (smV (v % 100000000 % 10000 / 100 * 2 + 1))) ((k : Int) - 4) (smV (v % 100000000 % 10000 / 100 * 2)))] [0, 1, 4, 10, 11] ?_ (hp := (by simp only [AllP, bb, toN, inR, wrL_len, sm_size]; repeat' first | exact trivial | exact Nat.le_refl 1 | omega | exact putU.symm | exact EntL.refl _ | exact Int.lt_of_lt_of_le (b := 200) (by omega) (Int.le_of_eq (by rfl)) | exact rfl | apply And.intro)) -- 8
    refine gk_region env false [.el (0 : Int) u8C (wrL (wrL (wrL (wrL (wrL l ((k : Int) - 1) (smV (v % 100000000 % 10000 % 100 * 2 + 1))) ((k : Int) - 2) (smV (v % 100000000 % 10000 % 100 * 2))) ((k : Int) - 3) (smV (v % 100000000 % 10000 / 100 * 2 + 1))) ((k : Int) - 4) (smV (v % 100000000 % 10000 / 100 * 2))) ((k : Int) - 5) (smV (v % 100000000 / 10000 % 100 * 2 + 1))), .el (0 : Int) u8C (wrL (wrL (wrL (wrL (wrL (wrL l ((k : Int) - 1) (smV (v % 100000000 % 10000 % 100 * 2 + 1))) ((k : Int) - 2) (smV (v % 100000000 % 10000 % 100 * 2))) ((k : Int) - 3) (smV (v % 100000000 % 10000 / 100 * 2 + 1))) ((k : Int) - 4) (smV (v % 100000000 % 10000 / 100 * 2))) ((k : Int) - 5) (smV (v % 100000000 / 10000 % 100 * 2 + 1))) ((k : Int) - 6) (smV (v % 100000000 / 10000 % 100 * 2)))] [0, 1, 4, 10] ?_ (hp := (by simp only [AllP, bb, toN, inR, wrL_len, sm_size]; repeat' first | exact trivial | exact Nat.le_refl 1 | omega | exact putU.symm | exact EntL.refl _ | exact Int.lt_of_lt_of_le (b := 200) (by omega) (Int.le_of_eq (by rfl)) | exact rfl | apply And.intro)) -- 9
    refine gk_region env false [.el (0 : Int) u8C (wrL (wrL (wrL (wrL (wrL (wrL (wrL l ((k : Int) - 1) (smV (v % 100000000 % 10000 % 100 * 2 + 1))) ((k : Int) - 2) (smV (v % 100000000 % 10000 % 100 * 2))) ((k : Int) - 3) (smV (v % 100000000 % 10000 / 100 * 2 + 1))) ((k : Int) - 4) (smV (v % 100000000 % 10000 / 100 * 2))) ((k : Int) - 5) (smV (v % 100000000 / 10000 % 100 * 2 + 1))) ((k : Int) - 6) (smV (v % 100000000 / 10000 % 100 * 2))) ((k : Int) - 7) (smV (v % 100000000 / 10000 / 100 * 2 + 1))), .el (0 : Int) u8C (wrL (wrL (wrL (wrL (wrL (wrL (wrL (wrL l ((k : Int) - 1) (smV (v % 100000000 % 10000 % 100 * 2 + 1))) ((k : Int) - 2) (smV (v % 100000000 % 10000 % 100 * 2))) ((k : Int) - 3) (smV (v % 100000000 % 10000 / 100 * 2 + 1))) ((k : Int) - 4) (smV (v % 100000000 % 10000 / 100 * 2))) ((k : Int) - 5) (smV (v % 100000000 / 10000 % 100 * 2 + 1))) ((k : Int) - 6) (smV (v % 100000000 / 10000 % 100 * 2))) ((k : Int) - 7) (smV (v % 100000000 / 10000 / 100 * 2 + 1))) ((k : Int) - 8) (smV (v % 100000000 / 10000 / 100 * 2)))] [0, 1, 4] ?_ (hp := (by simp only [AllP, bb, toN, inR, wrL_len, sm_size]; repeat' first | exact trivial | exact Nat.le_refl 1 | omega | exact putU.symm | exact EntL.refl _ | exact Int.lt_of_lt_of_le (b := 200) (by omega) (Int.le_of_eq (by rfl)) | exact rfl | apply And.intro)) -- 10
    refine gk_region env false [] [0, 1, 4] ?_ (hp := (by simp only [AllP, bb, toN, inR, wrL_len, sm_size]; repeat' first | exact trivial | exact Nat.le_refl 1 | omega | exact putU.symm | exact EntL.refl _ | exact Int.lt_of_lt_of_le (b := 200) (by omega) (Int.le_of_eq (by rfl)) | exact rfl | apply And.intro)) -- 11
    refine gk_round ((k - 8, v / 100000000, oct k v l)) ?_ (hp := by simp only [AllP]; repeat' first | exact trivial | exact EntL.refl _ | exact BEntL.refl _ | exact rfl | omega | apply And.intro | intro _ | (congr 1; omega))
    refine ⟨by simp only; omega, by simp only; omega, by simp only [oct, wrL_len]; omega, hI.eq.trans ?_⟩
    rw [fm8, if_pos (by omega)]
  · try simp only [toN] at c1
    refine gk_region env true [] [0, 4, 12] ?_ -- 12
    have hx := u32_in v
    generalize hxe : IntKind.u32.wrap v = x at hx ⊢
    refine gk_region env false [] [0, 4, 12, 99] ?_ (hp := (by simp only [AllP, bb, toN, inR, wrL_len, sm_size]; repeat' first | exact trivial | exact Nat.le_refl 1 | omega | exact putU.symm | exact EntL.refl _ | exact Int.lt_of_lt_of_le (b := 200) (by omega) (Int.le_of_eq (by rfl)) | exact rfl | apply And.intro)) -- 13
    refine gk_ifd (fun c2 => ?_) (fun c2 => ?_)
    · try simp only [toN] at c2
      refine gk_region env false [] [0, 4, 12, 13] ?_ (hp := (by simp only [AllP, bb, toN, inR, wrL_len, sm_size]; repeat' first | exact trivial | exact Nat.le_refl 1 | omega | exact putU.symm | exact EntL.refl _ | exact Int.lt_of_lt_of_le (b := 200) (by omega) (Int.le_of_eq (by rfl)) | exact rfl | apply And.intro)) -- 14
      refine gk_region env false [] [0, 4, 12, 13] ?_ (hp := (by simp only [AllP, bb, toN, inR, wrL_len, sm_size]; repeat' first | exact trivial | exact Nat.le_refl 1 | omega | exact putU.symm | exact EntL.refl _ | exact Int.lt_of_lt_of_le (b := 200) (by omega) (Int.le_of_eq (by rfl)) | exact rfl | apply And.intro)) -- 15
      refine gk_region env false [] [0, 4, 12, 14, 15] ?_ (hp := (by simp only [AllP, bb, toN, inR, wrL_len, sm_size]; repeat' first | exact trivial | exact Nat.le_refl 1 | omega | exact putU.symm | exact EntL.refl _ | exact Int.lt_of_lt_of_le (b := 200) (by omega) (Int.le_of_eq (by rfl)) | exact rfl | apply And.intro)) -- 16
      refine gk_region env false [.el (0 : Int) u8C (wrL l ((k : Int) - 1) (smV (x % 10000 % 100 * 2 + 1))), .el (0 : Int) u8C (wrL (wrL l ((k : Int) - 1) (smV (x % 10000 % 100 * 2 + 1))) ((k : Int) - 2) (smV (x % 10000 % 100 * 2)))] [0, 4, 12, 14] ?_ (hp := (by simp only [AllP, bb, toN, inR, wrL_len, sm_size]; repeat' first | exact trivial | exact Nat.le_refl 1 | omega | exact putU.symm | exact EntL.refl _ | exact Int.lt_of_lt_of_le (b := 200) (by omega) (Int.le_of_eq (by rfl)) | exact rfl | apply And.intro)) -- 17
      refine gk_region env false [.el (0 : Int) u8C (wrL (wrL (wrL l ((k : Int) - 1) (smV (x % 10000 % 100 * 2 + 1))) ((k : Int) - 2) (smV (x % 10000 % 100 * 2))) ((k : Int) - 3) (smV (x % 10000 / 100 * 2 + 1))), .el (0 : Int) u8C (wrL (wrL (wrL (wrL l ((k : Int) - 1) (smV (x % 10000 % 100 * 2 + 1))) ((k : Int) - 2) (smV (x % 10000 % 100 * 2))) ((k : Int) - 3) (smV (x % 10000 / 100 * 2 + 1))) ((k : Int) - 4) (smV (x % 10000 / 100 * 2)))] [0, 4, 12] ?_ (hp := (by simp only [AllP, bb, toN, inR, wrL_len, sm_size]; repeat' first | exact trivial | exact Nat.le_refl 1 | omega | exact putU.symm | exact EntL.refl _ | exact Int.lt_of_lt_of_le (b := 200) (by omega) (Int.le_of_eq (by rfl)) | exact rfl | apply And.intro)) -- 18
      refine gk_region env false [] [0, 4, 12] ?_ (hp := (by simp only [AllP, bb, toN, inR, wrL_len, sm_size]; repeat' first | exact trivial | exact Nat.le_refl 1 | omega | exact putU.symm | exact EntL.refl _ | exact Int.lt_of_lt_of_le (b := 200) (by omega) (Int.le_of_eq (by rfl)) | exact rfl | apply And.intro)) -- 19
      refine gk_region env false [] [0, 4, 12, 139] ?_ (hp := (by simp only [AllP, bb, toN, inR, wrL_len, sm_size]; repeat' first | exact trivial | exact Nat.le_refl 1 | omega | exact putU.symm | exact EntL.refl _ | exact Int.lt_of_lt_of_le (b := 200) (by omega) (Int.le_of_eq (by rfl)) | exact rfl | apply And.intro)) -- 20
      refine gk_ifd (fun c3 => ?_) (fun c3 => ?_)
      · try simp only [toN] at c3
        refine gk_region env false [] [0, 4, 12, 16] ?_ (hp := (by simp only [AllP, bb, toN, inR, wrL_len, sm_size]; repeat' first | exact trivial | exact Nat.le_refl 1 | omega | exact putU.symm | exact EntL.refl _ | exact Int.lt_of_lt_of_le (b := 200) (by omega) (Int.le_of_eq (by rfl)) | exact rfl | apply And.intro)) -- 21
        refine gk_region env false [] [0, 4, 12, 16] ?_ (hp := (by simp only [AllP, bb, toN, inR, wrL_len, sm_size]; repeat' first | exact trivial | exact Nat.le_refl 1 | omega | exact putU.symm | exact EntL.refl _ | exact Int.lt_of_lt_of_le (b := 200) (by omega) (Int.le_of_eq (by rfl)) | exact rfl | apply And.intro)) -- 22
        refine gk_region env false [.el (0 : Int) u8C (wrL (wrL (wrL (wrL (wrL l ((k : Int) - 1) (smV (x % 10000 % 100 * 2 + 1))) ((k : Int) - 2) (smV (x % 10000 % 100 * 2))) ((k : Int) - 3) (smV (x % 10000 / 100 * 2 + 1))) ((k : Int) - 4) (smV (x % 10000 / 100 * 2))) (((k : Int) - 4) - 1) (smV ((x / 10000) % 100 * 2 + 1))), .el (0 : Int) u8C (wrL (wrL (wrL (wrL (wrL (wrL l ((k : Int) - 1) (smV (x % 10000 % 100 * 2 + 1))) ((k : Int) - 2) (smV (x % 10000 % 100 * 2))) ((k : Int) - 3) (smV (x % 10000 / 100 * 2 + 1))) ((k : Int) - 4) (smV (x % 10000 / 100 * 2))) (((k : Int) - 4) - 1) (smV ((x / 10000) % 100 * 2 + 1))) (((k : Int) - 4) - 2) (smV ((x / 10000) % 100 * 2)))] [0, 4, 12] ?_ (hp := (by simp only [AllP, bb, toN, inR, wrL_len, sm_size]; repeat' first | exact trivial | exact Nat.le_refl 1 | omega | exact putU.symm | exact EntL.refl _ | exact Int.lt_of_lt_of_le (b := 200) (by omega) (Int.le_of_eq (by rfl)) | exact rfl | apply And.intro)) -- 23
        refine gk_region env false [] [0, 4, 12] ?_ (hp := (by simp only [AllP, bb, toN, inR, wrL_len, sm_size]; repeat' first | exact trivial | exact Nat.le_refl 1 | omega | exact putU.symm | exact EntL.refl _ | exact Int.lt_of_lt_of_le (b := 200) (by omega) (Int.le_of_eq (by rfl)) | exact rfl | apply And.intro)) -- 24
        refine gk_region env false [] [0, 12, 161] ?_ (hp := (by simp only [AllP, bb, toN, inR, wrL_len, sm_size]; repeat' first | exact trivial | exact Nat.le_refl 1 | omega | exact putU.symm | exact EntL.refl _ | exact Int.lt_of_lt_of_le (b := 200) (by omega) (Int.le_of_eq (by rfl)) | exact rfl | apply And.intro)) -- 25
        refine gk_ifd (fun c4 => ?_) (fun c4 => ?_)
        · try simp only [toN] at c4
          refine gk_region env true [.el (0 : Int) u8C (wrL (wrL (wrL (wrL (wrL (wrL (wrL l ((k : Int) - 1) (smV (x % 10000 % 100 * 2 + 1))) ((k : Int) - 2) (smV (x % 10000 % 100 * 2))) ((k : Int) - 3) (smV (x % 10000 / 100 * 2 + 1))) ((k : Int) - 4) (smV (x % 10000 / 100 * 2))) (((k : Int) - 4) - 1) (smV ((x / 10000) % 100 * 2 + 1))) (((k : Int) - 4) - 2) (smV ((x / 10000) % 100 * 2))) 0 (IntKind.u8.wrap (IntKind.u32.wrap (48 + ((x / 10000) / 100)))))] [] ?_ (hp := (by simp only [AllP, bb, toN, inR, wrL_len, sm_size]; repeat' first | exact trivial | exact Nat.le_refl 1 | omega | exact putU.symm | exact EntL.refl _ | exact Int.lt_of_lt_of_le (b := 200) (by omega) (Int.le_of_eq (by rfl)) | exact rfl | apply And.intro)) -- 26
          refine gk_endM env [] (hp := ?_)
          simp only [AllP]
          rw [hI.eq, fm8, if_neg (by omega), hxe, fm4, if_pos (by omega), fm2, if_pos (by omega), fm1, if_pos (by omega)]
        · try simp only [toN] at c4
          refine gk_endM env [] (hp := ?_)
          simp only [AllP]
          rw [hI.eq, fm8, if_neg (by omega), hxe, fm4, if_pos (by omega), fm2, if_pos (by omega), fm1, if_neg (by omega)]
      · try simp only [toN] at c3
        refine gk_region env false [] [0, 12, 161] ?_ (hp := (by simp only [AllP, bb, toN, inR, wrL_len, sm_size]; repeat' first | exact trivial | exact Nat.le_refl 1 | omega | exact putU.symm | exact EntL.refl _ | exact Int.lt_of_lt_of_le (b := 200) (by omega) (Int.le_of_eq (by rfl)) | exact rfl | apply And.intro)) -- 25
        refine gk_ifd (fun c5 => ?_) (fun c5 => ?_)
        · try simp only [toN] at c5
          refine gk_region env true [.el (0 : Int) u8C (wrL (wrL (wrL (wrL (wrL l ((k : Int) - 1) (smV (x % 10000 % 100 * 2 + 1))) ((k : Int) - 2) (smV (x % 10000 % 100 * 2))) ((k : Int) - 3) (smV (x % 10000 / 100 * 2 + 1))) ((k : Int) - 4) (smV (x % 10000 / 100 * 2))) 0 (IntKind.u8.wrap (IntKind.u32.wrap (48 + (x / 10000)))))] [] ?_ (hp := (by simp only [AllP, bb, toN, inR, wrL_len, sm_size]; repeat' first | exact trivial | exact Nat.le_refl 1 | omega | exact putU.symm | exact EntL.refl _ | exact Int.lt_of_lt_of_le (b := 200) (by omega) (Int.le_of_eq (by rfl)) | exact rfl | apply And.intro)) -- 26
          refine gk_endM env [] (hp := ?_)
          simp only [AllP]
          rw [hI.eq, fm8, if_neg (by omega), hxe, fm4, if_pos (by omega), fm2, if_neg (by omega), fm1, if_pos (by omega)]
        · try simp only [toN] at c5
          refine gk_endM env [] (hp := ?_)
          simp only [AllP]
          rw [hI.eq, fm8, if_neg (by omega), hxe, fm4, if_pos (by omega), fm2, if_neg (by omega), fm1, if_neg (by omega)]
    · try simp only [toN] at c2
      refine gk_region env false [] [0, 4, 12, 139] ?_ (hp := (by simp only [AllP, bb, toN, inR, wrL_len, sm_size]; repeat' first | exact trivial | exact Nat.le_refl 1 | omega | exact putU.symm | exact EntL.refl _ | exact Int.lt_of_lt_of_le (b := 200) (by omega) (Int.le_of_eq (by rfl)) | exact rfl | apply And.intro)) -- 20
      refine gk_ifd (fun c6 => ?_) (fun c6 => ?_)
      · try simp only [toN] at c6
        refine gk_region env false [] [0, 4, 12, 16] ?_ (hp := (by simp only [AllP, bb, toN, inR, wrL_len, sm_size]; repeat' first | exact trivial | exact Nat.le_refl 1 | omega | exact putU.symm | exact EntL.refl _ | exact Int.lt_of_lt_of_le (b := 200) (by omega) (Int.le_of_eq (by rfl)) | exact rfl | apply And.intro)) -- 21
        refine gk_region env false [] [0, 4, 12, 16] ?_ (hp := (by simp only [AllP, bb, toN, inR, wrL_len, sm_size]; repeat' first | exact trivial | exact Nat.le_refl 1 | omega | exact putU.symm | exact EntL.refl _ | exact Int.lt_of_lt_of_le (b := 200) (by omega) (Int.le_of_eq (by rfl)) | exact rfl | apply And.intro)) -- 22
        refine gk_region env false [.el (0 : Int) u8C (wrL l ((k : Int) - 1) (smV (x % 100 * 2 + 1))), .el (0 : Int) u8C (wrL (wrL l ((k : Int) - 1) (smV (x % 100 * 2 + 1))) ((k : Int) - 2) (smV (x % 100 * 2)))] [0, 4, 12] ?_ (hp := (by simp only [AllP, bb, toN, inR, wrL_len, sm_size]; repeat' first | exact trivial | exact Nat.le_refl 1 | omega | exact putU.symm | exact EntL.refl _ | exact Int.lt_of_lt_of_le (b := 200) (by omega) (Int.le_of_eq (by rfl)) | exact rfl | apply And.intro)) -- 23
        refine gk_region env false [] [0, 4, 12] ?_ (hp := (by simp only [AllP, bb, toN, inR, wrL_len, sm_size]; repeat' first | exact trivial | exact Nat.le_refl 1 | omega | exact putU.symm | exact EntL.refl _ | exact Int.lt_of_lt_of_le (b := 200) (by omega) (Int.le_of_eq (by rfl)) | exact rfl | apply And.intro)) -- 24
        refine gk_region env false [] [0, 12, 161] ?_ (hp := (by simp only [AllP, bb, toN, inR, wrL_len, sm_size]; repeat' first | exact trivial | exact Nat.le_refl 1 | omega | exact putU.symm | exact EntL.refl _ | exact Int.lt_of_lt_of_le (b := 200) (by omega) (Int.le_of_eq (by rfl)) | exact rfl | apply And.intro)) -- 25
        refine gk_ifd (fun c7 => ?_) (fun c7 => ?_)
        · try simp only [toN] at c7
          refine gk_region env true [.el (0 : Int) u8C (wrL (wrL (wrL l ((k : Int) - 1) (smV (x % 100 * 2 + 1))) ((k : Int) - 2) (smV (x % 100 * 2))) 0 (IntKind.u8.wrap (IntKind.u32.wrap (48 + (x / 100)))))] [] ?_ (hp := (by simp only [AllP, bb, toN, inR, wrL_len, sm_size]; repeat' first | exact trivial | exact Nat.le_refl 1 | omega | exact putU.symm | exact EntL.refl _ | exact Int.lt_of_lt_of_le (b := 200) (by omega) (Int.le_of_eq (by rfl)) | exact rfl | apply And.intro)) -- 26
          refine gk_endM env [] (hp := ?_)
          simp only [AllP]
          rw [hI.eq, fm8, if_neg (by omega), hxe, fm4, if_neg (by omega), fm2, if_pos (by omega), fm1, if_pos (by omega)]
        · try simp only [toN] at c7
          refine gk_endM env [] (hp := ?_)
          simp only [AllP]
          rw [hI.eq, fm8, if_neg (by omega), hxe, fm4, if_neg (by omega), fm2, if_pos (by omega), fm1, if_neg (by omega)]
      · try simp only [toN] at c6
        refine gk_region env false [] [0, 12, 161] ?_ (hp := (by simp only [AllP, bb, toN, inR, wrL_len, sm_size]; repeat' first | exact trivial | exact Nat.le_refl 1 | omega | exact putU.symm | exact EntL.refl _ | exact Int.lt_of_lt_of_le (b := 200) (by omega) (Int.le_of_eq (by rfl)) | exact rfl | apply And.intro)) -- 25
        refine gk_ifd (fun c8 => ?_) (fun c8 => ?_)
        · try simp only [toN] at c8
          refine gk_region env true [.el (0 : Int) u8C (wrL l 0 (IntKind.u8.wrap (IntKind.u32.wrap (48 + x))))] [] ?_ (hp := (by simp only [AllP, bb, toN, inR, wrL_len, sm_size]; repeat' first | exact trivial | exact Nat.le_refl 1 | omega | exact putU.symm | exact EntL.refl _ | exact Int.lt_of_lt_of_le (b := 200) (by omega) (Int.le_of_eq (by rfl)) | exact rfl | apply And.intro)) -- 26
          refine gk_endM env [] (hp := ?_)
          simp only [AllP]
          rw [hI.eq, fm8, if_neg (by omega), hxe, fm4, if_neg (by omega), fm2, if_neg (by omega), fm1, if_pos (by omega)]
        · try simp only [toN] at c8
          refine gk_endM env [] (hp := ?_)
          simp only [AllP]
          rw [hI.eq, fm8, if_neg (by omega), hxe, fm4, if_neg (by omega), fm2, if_neg (by omega), fm1, if_neg (by omega)]

theorem fm1_ok {k x : Int} {l : List Int} (h : ∀ c, c ∈ l → 0 ≤ c ∧ c ≤ 255) : True := trivial
theorem smV_in (i : Int) : 0 ≤ smV i ∧ smV i ≤ 255 := by
  unfold smV byteAt
  have := (smalls.data.toList.getD i.toNat 0).toNat_lt
  constructor <;> first | omega | skip
end Go.Gh
