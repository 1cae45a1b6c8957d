/-
  What the law rests on, part 9. No condition.
-/
import Derived.Test.YtopjnbmggagloaaGreatDoorPf

namespace Go.Ex
open Go Go.Vc Go.Proofs
set_option maxRecDepth 1000000
theorem p3 : gcS c3b (run MM 48000 c2) = c3 := by kernel_rfl
end Go.Ex

