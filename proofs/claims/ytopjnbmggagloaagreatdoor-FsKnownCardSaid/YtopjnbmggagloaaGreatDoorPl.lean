/-
  What the law rests on, part 12. No condition.
-/
import Derived.Test.YtopjnbmggagloaaGreatDoorPf

namespace Go.Ex
open Go Go.Vc Go.Proofs
set_option maxRecDepth 1000000
theorem p6 : gcS c6b (run MM 48000 c5) = c6 := by kernel_rfl
end Go.Ex

