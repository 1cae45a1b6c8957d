/-
  What the law rests on, part 14. No condition.
-/
import Derived.Test.YtdkmenianpdoiaaGreatDoorPg

namespace Go.Ex
open Go Go.Vc Go.Proofs
set_option maxRecDepth 1000000
theorem p7 : isT (run MM 44000 c6) = true := by kernel_rfl
end Go.Ex

