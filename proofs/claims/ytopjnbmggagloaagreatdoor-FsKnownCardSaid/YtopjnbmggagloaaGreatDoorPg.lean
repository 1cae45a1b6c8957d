/-
  What the law rests on, part 7. No condition.
-/
import Derived.Test.YtopjnbmggagloaaGreatDoorPf

namespace Go.Ex
open Go Go.Vc Go.Proofs
set_option maxRecDepth 1000000
theorem p1 : gcS c1b (run MM 44000 (goin MM.P 3 .nil (.fin 3) .nil H0 0)) = c1 := by kernel_rfl
end Go.Ex

