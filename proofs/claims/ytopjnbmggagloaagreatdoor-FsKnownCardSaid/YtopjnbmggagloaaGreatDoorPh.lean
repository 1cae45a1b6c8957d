/-
  What the law rests on, part 8. No condition.
-/
import Derived.Test.YtopjnbmggagloaaGreatDoorPf

namespace Go.Ex
open Go Go.Vc Go.Proofs
set_option maxRecDepth 1000000
theorem p2 : gcS c2b (run MM 48000 c1) = c2 := by kernel_rfl
end Go.Ex

