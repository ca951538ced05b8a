import Derived.Test.YtlkkohkilelamaaGreatTab
import Derived.JoinedOf
/- A part of the proof of SurveySlots. -/
set_option linter.unusedVariables false
set_option maxRecDepth 100000
namespace Go.Proofs.YtlkkohkilelamaaGreat
open Go
theorem jfE:Tryz.prog.mayEnter=true:=by kernel_rfl
theorem jfS:Tryz.prog.stopsHeard=true:=by kernel_rfl
theorem jfL:Tryz.prog.liftsFinal=false:=by kernel_rfl
theorem jfO:laidOutB Tryz.prog=true:=by kernel_rfl
theorem jfK : Tryz.prog.make = some (({ program := "", sum := "", func := "", spec := "" } : OpenClaim).make) := by kernel_rfl
theorem jfM:mapsRowed Tryz.prog=true:=by kernel_rfl
