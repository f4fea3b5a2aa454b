/- Walks by the logic of calls, and plain laws. -/
import Derived.Test.YthdmcpbmmgmlcaaDoorGScF
namespace Go.Gh
open Go Go.Proofs
set_option maxRecDepth 1000000
set_option maxHeartbeats 2000000
set_option linter.unusedSimpArgs false
set_option linter.unusedVariables false
open Go.RowKit

def textsL (f : Fl) : List ByteArray := (List.range (sz f.words)).map (textF f)
def textsE (d : Dc) (n : Int) : List ByteArray × Int := if checkE d = 0 then if hasB d n = true then if 4096 < sz (fieldAt d n).words then ([], 6) else (textsL (fieldAt d n), 0) else ([], 4) else ([], checkE d)

theorem texts_ok (d : Dc) (hd : Fit d) (n : Int) : GC Tryd.prog 18 [dcG d, iG n] (.tup [rowS (textsE d n).1, iG (textsE d n).2]) := by
  have hd2 := hd.fields
  refine gc_of_gk Tryd.func18 ?_
  refine gk_region env false [] [1, 2, 4, 5] ?_ -- 0
  refine gk_region env false [.call (check_ok d hd)] [1, 2, 4, 5, 6] ?_ -- 1
  refine gk_region env false [] [1, 2, 4, 5, 6, 11] ?_ -- 2
  refine gk_ifn (fun c1 => ?_) (fun c1 => ?_)
  · try simp only [toN] at c1
    refine gk_region env false [] [1, 2, 4, 5] ?_ -- 3
    refine gk_retE env ?_
    rw [textsE, if_neg c1]; exact Ent.tup ⟨Ent.nil, Ent.refl _, trivial⟩
  · try simp only [toN] at c1
    refine gk_region env false [.call (has_ok d hd n)] [1, 2, 4, 5, 15] ?_ -- 4
    refine gk_if (fun c2 => ?_) (fun c2 => ?_)
    · try simp only [bb, toN] at c2
      refine gk_region env false [] [1, 2, 4, 5] ?_ -- 5
      refine gk_retE env ?_
      have hb : hasB d n = false := by
        cases hb : hasB d n with
        | false => rfl
        | true => obtain ⟨a1, a2, a3⟩ := hasB_at hb; omega
      rw [textsE, if_pos c1, if_neg (by simp [hb])]; exact Ent.tup ⟨Ent.nil, Ent.refl _, trivial⟩
    · try simp only [bb, toN] at c2
      have hb : hasB d n = true := by simpa [hasB, and_assoc] using c2
      obtain ⟨h1, h2, h3⟩ := hasB_at hb
      have hg : Good (d.fields.getD n.toNat default) := hasB_good hb
      have hsz := hg.sz
      refine gk_region env false [.call (size_ok (d.fields.getD n.toNat default) hg)] [1, 2, 4, 5, 20] ?_ -- 6
      refine gk_ifd (fun c3 => ?_) (fun c3 => ?_)
      · try simp only [toN] at c3
        refine gk_region env false [] [1, 2, 4, 5] ?_ -- 7
        refine gk_retE env ?_
        rw [textsE, if_pos c1, if_pos hb, if_pos (by have : sz (fieldAt d n).words = sz (d.fields.getD n.toNat default).words := rfl; omega)]; exact Ent.tup ⟨Ent.nil, Ent.refl _, trivial⟩
      · try simp only [toN] at c3
        refine gk_region env false [] [1, 2, 4, 5, 7] ?_ -- 8
        refine gk_region env false [.call (texts1_ok (d.fields.getD n.toNat default))] [4, 5, 7, 33] ?_ -- 9
        refine gk_nilB 1 0 9 1 (default : ByteArray) strC ?_
        refine gk_range 2 3 (fun i : Nat => [sG (textF (d.fields.getD n.toNat default) i)]) (List.range (sz (d.fields.getD n.toNat default).words)) (fun pre => [(0, some (.box [sG d.kind, .d (.row default flC d.fields)])), (1, some (.box [.sl 2 1 0 (pre.map (textF (d.fields.getD n.toNat default))).length])), (2, some (.row 9 1 default strC (pre.map (textF (d.fields.getD n.toNat default))) 0))]) (texts_iter (d.fields.getD n.toNat default) hg) ?_ ?_ (hps := by simp [AllP] <;> rfl) -- range 10
        · rintro pre x hpre
          rw [List.length_range] at hpre
          refine gk_region env false [] [7, 8] ?_ -- 10
          refine gk_asn ?_
          refine gk_region env false [.el default strC [textF (d.fields.getD n.toNat default) x], .el default strC ((pre ++ [x]).map (textF (d.fields.getD n.toNat default)))] [] ?_ (hp := (by simp only [AllP, Int.toNat_natCast, List.length_map, List.map_append, List.map_cons, List.map_nil]; repeat' first | exact trivial | exact EntL.refl _ | exact BEntL.refl _ | exact rfl | (simp only [List.length_append, List.length_cons, List.length_nil, List.length_map]; omega) | apply And.intro | intro _ | (simp [rowL, strC]; done))) -- 11
          exact gk_back
        · refine gk_region env false [] [4, 5] ?_ -- 12
          refine gk_ret env ?_
          rw [textsE, if_pos c1, if_pos hb, if_neg (by have : sz (fieldAt d n).words = sz (d.fields.getD n.toNat default).words := rfl; omega)]; rfl
end Go.Gh
