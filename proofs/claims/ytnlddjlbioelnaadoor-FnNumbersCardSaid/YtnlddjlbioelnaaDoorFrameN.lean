/-
  strconv's table and its error out of a row's condition.
-/
import Derived.Test.YtnlddjlbioelnaaDoorFrameD
import Derived.Test.YtnlddjlbioelnaaDoorDec2
import Derived.Stop.LaidErr
namespace Go.Proofs.YtnlddjlbioelnaaDoor
open Go.ChangeShapes Go.WideShapes Go.ChangeAt Go.RowKit

theorem laidMet_tail {P : Program} {x : String × DataW Unit} {rest : List (String × DataW Unit)} {W : World} (h : laidMet P (x :: rest) W) : laidMet P rest W := by
  obtain ⟨ps, ⟨g, t, cs, fuel, p, q, h1, h2, h3, h4, h5, h6⟩, hn, hc⟩ := h
  subst h6
  exact ⟨q, h5, (List.nodup_append.1 hn).2.1, fun b off hb => hc b off (List.mem_append_right _ hb)⟩

theorem gPow : Tryd.prog.globalNamed "internal/strconv.uint64pow10" = some 2 := by kernel_rfl
theorem gPowType : (Tryd.prog.globals[2]?).map (·.type) = some 79 := by kernel_rfl
theorem cells20 : Tryd.prog.cellsOf 79 = 20 := by kernel_rfl
theorem cells1u : Tryd.prog.cellsOf 67 = 1 := by kernel_rfl
theorem powData : (Rows.laid_internal_strconv_uint64pow10 : DataW Unit) = Lib.tabData .u64 Lib.pow10Tab := by kernel_rfl
theorem powsMet {W : World} {a b : String × DataW Unit} {rest : List (String × DataW Unit)} (h : laidMet Tryd.prog (a :: b :: ("internal/strconv.uint64pow10", Rows.laid_internal_strconv_uint64pow10) :: rest) W) : Pows W := by

  have h2 := laidMet_tail (laidMet_tail h)
  rw [powData] at h2
  exact Lib.tabBelow_of_tabIs (Lib.tabIs_of_head gPow gPowType Tryd.underlying79 Tryd.underlying67 cells1u cells20 h2)

end Go.Proofs.YtnlddjlbioelnaaDoor
