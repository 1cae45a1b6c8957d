/-
  What the law rests on, part 14. No condition.
-/
import Derived.Test.YtopjnbmggagloaaGreatDoorPf

namespace Go.Ex
open Go Go.Vc Go.Proofs
set_option maxRecDepth 1000000
theorem p8 : gcS c8b (run MM 48000 c7) = c8 := by kernel_rfl
end Go.Ex

