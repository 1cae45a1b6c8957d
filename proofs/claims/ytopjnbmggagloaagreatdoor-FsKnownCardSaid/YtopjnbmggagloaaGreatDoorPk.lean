/-
  What the law rests on, part 11. No condition.
-/
import Derived.Test.YtopjnbmggagloaaGreatDoorPf

namespace Go.Ex
open Go Go.Vc Go.Proofs
set_option maxRecDepth 1000000
theorem p5 : gcS c5b (run MM 48000 c4) = c5 := by kernel_rfl
end Go.Ex

