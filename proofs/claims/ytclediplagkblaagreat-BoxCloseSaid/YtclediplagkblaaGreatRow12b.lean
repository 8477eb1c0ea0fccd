/- A part of the proofs of this seat: rules of a logic of owned and of lent memory, what functions compute, or their walks. -/
import Derived.Test.YtclediplagkblaaGreatRow0
set_option linter.unusedVariables false
set_option linter.unusedSimpArgs false
namespace Go.Proofs.YtclediplagkblaaGreat
open Go.ChangeShapes Go.WideShapes Go.ChangeAt Go.RowKit
theorem boxClose_j1 : (Rows.boxCloseRow.inPlace == Tryz.prog.inPlace 4) = true := by kernel_rfl
theorem boxClose_j2 : (Rows.boxCloseRow.unfollowed == Tryz.prog.unfollowed 4) = true := by kernel_rfl
theorem boxClose_j3 : (Rows.boxCloseRow.recurses == Tryz.prog.recurses 4) = true := by kernel_rfl
theorem boxClose_j4 : (Rows.boxCloseRow.named == Tryz.prog.varsNamed 4) = true := by kernel_rfl
theorem boxClose_j : joinedFacts Tryz.prog 4 Tryz.f4 Rows.boxCloseSpec Rows.boxCloseRow = true := by
  unfold joinedFacts
  rw [boxClose_j1, boxClose_j2, boxClose_j3, boxClose_j4, z_laidOut, z_mapsRowed, z_stops, z_stopKnobs]
  kernel_rfl
theorem boxClose_n : Tryz.prog.funcNamed Rows.boxCloseRow.func = some 4 := by kernel_rfl
theorem boxClose_i : Tryz.f4.isInstance Tryz.prog Rows.boxCloseRow.origin Rows.boxCloseRow.targs := of_decide_eq_true (by kernel_rfl)
theorem boxClose_w : Tryz.f4.isWrapper Tryz.prog Rows.boxCloseRow.wrapper Rows.boxCloseRow.mainSum := by
  unfold Func.isWrapper; first | (rw [if_pos (by decide +kernel)]; kernel_rfl) | (rw [if_neg (by decide +kernel)]; exact ⟨rfl, rfl⟩)
end Go.Proofs.YtclediplagkblaaGreat
