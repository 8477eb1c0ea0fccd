/- Proved: 'herbariumlaw22.BoxClose' returns true for every input, and all that it was given reads as before; no conditions. -/
import Derived.Test.YtclediplagkblaaGreatRow12a
import Derived.Test.YtclediplagkblaaGreatRow12b
set_option linter.unusedVariables false
set_option linter.unusedSimpArgs false
namespace Go.Proofs.YtclediplagkblaaGreat
open Go.ChangeShapes Go.WideShapes Go.ChangeAt Go.RowKit
set_option maxRecDepth 100000 in
theorem boxClose_over : Rows.boxCloseRow.holds Tryz.pinned (OpenSpec.ofChange Rows.boxCloseSpec) :=
  OpenClaim.holds_of_wide 4 Tryz.f4 rfl rfl rfl rfl rfl rfl rfl ⟨rfl, rfl, rfl, rfl, rfl⟩ rfl rfl rfl rfl rfl boxClose_n Tryz.func4 boxClose_j boxClose_i boxClose_w
    (fun os started H enc _ => boxClose_lifted os started H enc)
theorem boxClose_proved : Rows.BoxCloseSaid := boxClose_over
#print axioms boxClose_proved
end Go.Proofs.YtclediplagkblaaGreat
