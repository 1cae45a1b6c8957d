/-
  What the law rests on, part 13. No condition.
-/
import Derived.Test.YtopjnbmggagloaaGreatDoorPf

namespace Go.Ex
open Go Go.Vc Go.Proofs
set_option maxRecDepth 1000000
theorem p7 : gcS c7b (run MM 48000 c6) = c7 := by kernel_rfl
end Go.Ex

