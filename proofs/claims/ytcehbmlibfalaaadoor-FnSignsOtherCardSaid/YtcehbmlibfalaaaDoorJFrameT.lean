/-
  The digest's two tables out of a row's condition.
-/
import Derived.Test.YtcehbmlibfalaaaDoorJFrameD
import Derived.Test.YtcehbmlibfalaaaDoorJSha4
namespace Go.Proofs.YtcehbmlibfalaaaDoor
open Go.ChangeShapes Go.WideShapes Go.ChangeAt Go.RowKit

theorem laidMet_tail {P : Program} {x : String × DataW Unit} {rest : List (String × DataW Unit)} {W : World} (h : laidMet P (x :: rest) W) : laidMet P rest W := by
  obtain ⟨ps, ⟨g, t, cs, fuel, p, q, h1, h2, h3, h4, h5, h6⟩, hn, hc⟩ := h
  subst h6
  exact ⟨q, h5, (List.nodup_append.1 hn).2.1, fun b off hb => hc b off (List.mem_append_right _ hb)⟩

theorem gRound : Tryd.prog.globalNamed "loop.example/g00284/impl.roundWords" = some 1 := by kernel_rfl
theorem gRoundType : (Tryd.prog.globals[1]?).map (·.type) = some 91 := by kernel_rfl
theorem cells64 : Tryd.prog.cellsOf 91 = 64 := by kernel_rfl
theorem cells8 : Tryd.prog.cellsOf 87 = 8 := by kernel_rfl
theorem cells1 : Tryd.prog.cellsOf 86 = 1 := by kernel_rfl
theorem roundData : (Rows.laid_loop_example_g00284_impl_roundWords : DataW Unit) = Lib.tabData .u32 keyZ := by kernel_rfl
theorem roundTab {W : World} {rest : List (String × DataW Unit)} (h : laidMet Tryd.prog (("loop.example/g00284/impl.roundWords", Rows.laid_loop_example_g00284_impl_roundWords) :: rest) W) : TabAt W 1 .u32 keyZ := by
  rw [roundData] at h
  exact tabAt_of (Lib.tabIs_of_head gRound gRoundType Tryd.underlying91 Tryd.underlying86 cells1 cells64 h) gRound
theorem roundMet {W : World} (h : laidMetH Tryd.prog [("loop.example/g00284/impl.roundWords", Rows.laid_loop_example_g00284_impl_roundWords)] W) : TabAt W 1 .u32 keyZ := roundTab h

theorem gStart : Tryd.prog.globalNamed "loop.example/g00284/impl.startWords" = some 0 := by kernel_rfl
theorem gStartType : (Tryd.prog.globals[0]?).map (·.type) = some 87 := by kernel_rfl
theorem startData : (Rows.laid_loop_example_g00284_impl_startWords : DataW Unit) = Lib.tabData .u32 startL := by kernel_rfl
theorem tabsMet {W : World} (h : laidMetH Tryd.prog [("loop.example/g00284/impl.roundWords", Rows.laid_loop_example_g00284_impl_roundWords), ("loop.example/g00284/impl.startWords", Rows.laid_loop_example_g00284_impl_startWords)] W) : YtcehbmlibfalaaaDoorTabs W := by
  have h' : laidMet Tryd.prog _ W := h
  refine ⟨roundTab h', ?_⟩
  have h2 := laidMet_tail h'
  rw [startData] at h2
  exact tabAt_of (Lib.tabIs_of_head (rest := []) gStart gStartType Tryd.underlying87 Tryd.underlying86 cells1 cells8 h2) gStart

end Go.Proofs.YtcehbmlibfalaaaDoor
