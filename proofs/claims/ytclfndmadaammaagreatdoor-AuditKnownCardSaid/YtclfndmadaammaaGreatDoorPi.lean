/-
  What the law rests on, part 9. No condition.
-/
import Derived.Test.YtclfndmadaammaaGreatDoorPf

namespace Go.Ex
open Go Go.Vc Go.Proofs
set_option maxRecDepth 1000000
theorem p3 : isT (run MM 60000 c2) = true := by kernel_rfl
end Go.Ex

