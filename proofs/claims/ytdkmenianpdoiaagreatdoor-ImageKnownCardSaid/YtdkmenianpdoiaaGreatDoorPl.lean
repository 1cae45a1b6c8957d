/-
  What the law rests on, part 12. No condition.
-/
import Derived.Test.YtdkmenianpdoiaaGreatDoorPg

namespace Go.Ex
open Go Go.Vc Go.Proofs
set_option maxRecDepth 1000000
theorem p5 : gcS c5b (run MM 44000 c4) = c5 := by kernel_rfl
end Go.Ex

