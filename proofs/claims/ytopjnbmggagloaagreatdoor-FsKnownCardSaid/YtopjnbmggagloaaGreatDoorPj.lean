/-
  What the law rests on, part 10. No condition.
-/
import Derived.Test.YtopjnbmggagloaaGreatDoorPf

namespace Go.Ex
open Go Go.Vc Go.Proofs
set_option maxRecDepth 1000000
theorem p4 : gcS c4b (run MM 48000 c3) = c4 := by kernel_rfl
end Go.Ex

