import Derived.Test.YtipmgnhbcaniiaaTab
import Derived.JoinedOf
/- Closed facts of the program, told once. -/
set_option linter.unusedVariables false
set_option maxRecDepth 100000
namespace Go.Proofs.Ytipmgnhbcaniiaa
open Go

theorem jfE : Try.prog.mayEnter = true := by kernel_rfl
theorem jfS : Try.prog.stopsHeard = true := by kernel_rfl
theorem jfL : Try.prog.liftsFinal = false := by kernel_rfl
theorem jfO : laidOutB Try.prog = true := by kernel_rfl
theorem jfK : Try.prog.make = some (({ program := "", sum := "", func := "", spec := "" } : OpenClaim).make) := by kernel_rfl
theorem jfM : mapsRowed Try.prog = true := by kernel_rfl
end Go.Proofs.Ytipmgnhbcaniiaa
