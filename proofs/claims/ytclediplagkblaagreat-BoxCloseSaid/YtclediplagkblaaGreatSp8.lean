/- A part of the proofs of this seat: rules of a logic of owned and of lent memory, what functions compute, or their walks. -/
import Derived.Test.YtclediplagkblaaGreatSp7
import Derived.KernelRfl
set_option linter.unusedVariables false
set_option linter.unusedSimpArgs false
namespace Go.Hb
open Go
abbrev skZ : List TV := [.u8 0, .sl none 0 0, .i64 0, .sl none 0 0, .i64 0, .sl none 0 0, .i64 0, .i64 0, .sl none 0 0, .i64 0, .i64 0, .sl none 0 0, .i64 0, .u32 0, .u32 0, .u32 0, .u32 0, .u32 0, .u32 0, .u32 0, .f 0, .f 0, .sl none 0 0]
def B23 : List UInt8 := (closeB [] 1000 1048576).2
theorem close23 : (closeB [] (min (max 1000 0) 1000) (min (max 1048576 0) 1048576)) = (0, B23) := by kernel_rfl
theorem B23_len : B23.length = 23 := by kernel_rfl
theorem open23 : openR B23 1000 1048576 = (0, []) := by kernel_rfl
end Go.Hb
