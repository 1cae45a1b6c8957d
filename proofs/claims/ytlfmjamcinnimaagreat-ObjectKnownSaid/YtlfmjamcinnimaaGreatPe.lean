/-
  The contracts of the functions that the law reaches, part 5. No condition.
-/
import Derived.Test.YtlfmjamcinnimaaGreatPd

namespace Go.Ex
open Go Go.Vc Go.Proofs
set_option maxRecDepth 1000000 in
theorem run6 : isT (run MM 70000 (goin MM.P 6 .nil (.fin 6) .nil H0 0)) = true := by kernel_rfl
end Go.Ex

