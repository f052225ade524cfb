/- What is listed gives the walk what the library's variables hold, the table of math/bits too. -/
import Derived.Test.YtjhlgfafjjmooaaDoorFrame
import Derived.Test.YtjhlgfafjjmooaaDoorFub
namespace Go.Proofs.YtjhlgfafjjmooaaDoor.Frame
open Go.ChangeShapes Go.WideShapes Go.ChangeAt Go.RowKit
open Dot
set_option linter.unusedVariables false

def db64 : List Int := [0, 1, 56, 2, 57, 49, 28, 3, 61, 58, 42, 50, 38, 29, 17, 4, 62, 47, 59, 36, 45, 43, 51, 22, 53, 39, 33, 30, 24, 18, 12, 5, 63, 55, 48, 27, 60, 41, 37, 16, 46, 35, 44, 21, 52, 32, 23, 11, 54, 26, 40, 15, 34, 20, 31, 10, 25, 14, 19, 9, 13, 8, 7, 6]
theorem c5 : Tryd.prog.cellsOf 5 = 1 := by kernel_rfl
theorem c131 : Tryd.prog.cellsOf 131 = db64.length := by kernel_rfl
theorem tD : (Tryd.prog.globals[7]?).map (·.type) = some 131 := by kernel_rfl
theorem env2_of {W : World} (h : laidMetH Tryd.prog Rows.cidrWrongRow.laid W) (hsh : W.ShapedOpen Tryd.prog) : Env2 W := by
  have e := env_of h hsh
  rw [MakeChecks.laidMetH_plain _ _ _ (by kernel_rfl)] at h
  have h1 : laidMet Tryd.prog [("math/bits.deBruijn64tab", Rows.laid_math_bits_deBruijn64tab), ("internal/strconv.uint64pow10", Rows.laid_internal_strconv_uint64pow10), ("unicode/utf8.acceptRanges", Rows.laid_unicode_utf8_acceptRanges), ("strconv.ErrRange", Rows.laid_strconv_ErrRange), ("strconv.ErrSyntax", Rows.laid_strconv_ErrSyntax), ("unicode/utf8.first", Rows.laid_unicode_utf8_first)] W := laidMet.tail h
  have tab : Lib.TabIs Tryd.prog W "math/bits.deBruijn64tab" .u8 db64 := laid_nums (zs := db64) h1 gD tD Tryd.underlying131 Tryd.underlying5 c5 c131
  unfold Lib.TabIs World.var? at tab
  simp only [gD] at tab
  simp only [Option.bind_some] at tab
  cases hh : W.heap[7]? with
  | none => rw [hh] at tab; cases tab
  | some o =>
    rw [hh] at tab
    have hlt : 7 < W.heap.size := (Array.getElem?_eq_some_iff.1 hh).1
    cases o with
    | cells cs el fz =>
      have hcs : cs = (List.map (fun z => Value.int IntKind.u8 z) db64).toArray := Option.some.inj tab
      subst hcs
      refine ⟨e, ?_, by omega⟩
      unfold World.cell?
      rw [hh]
      rfl
    | _ => cases tab
end Go.Proofs.YtjhlgfafjjmooaaDoor.Frame
