/-
  The contracts of the functions that the law reaches, part 6. No condition.
-/
import Derived.Test.YtlfmjamcinnimaaGreatPe

namespace Go.Proofs
open Go Go.Vc Go.Ex
theorem ObjectKnown_law (H : Heap) : Does Tryz.prog 6 [] H fun v H' => v = .bool true ∧ Ext [] H H' := law_run run6 H
end Go.Proofs

