/- A part of the proofs of this seat: rules of a logic of owned and of lent memory, what functions compute, or their walks. -/
import Derived.Test.YtclediplagkblaaGreatRows
import Derived.ProofKit
set_option linter.unusedVariables false
set_option linter.unusedSimpArgs false
namespace Go.Proofs.YtclediplagkblaaGreat
open Go.ChangeShapes Go.WideShapes Go.ChangeAt Go.RowKit
theorem z_own : ownKnob Tryz.prog.godebug = none := by kernel_rfl
theorem z_laidOut : laidOutB Tryz.prog = true := by kernel_rfl
theorem z_mapsRowed : mapsRowed Tryz.prog = true := by kernel_rfl
theorem z_stops : (Tryz.prog.stops == []) = true := by kernel_rfl
theorem z_stopKnobs : (Tryz.prog.stopKnobs == []) = true := by kernel_rfl
end Go.Proofs.YtclediplagkblaaGreat
