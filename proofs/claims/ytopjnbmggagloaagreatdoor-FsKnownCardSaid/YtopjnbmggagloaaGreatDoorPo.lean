/-
  What the law rests on, part 15. No condition.
-/
import Derived.Test.YtopjnbmggagloaaGreatDoorPf

namespace Go.Ex
open Go Go.Vc Go.Proofs
set_option maxRecDepth 1000000
theorem p9 : isT (run MM 48000 c8) = true := by kernel_rfl
end Go.Ex

