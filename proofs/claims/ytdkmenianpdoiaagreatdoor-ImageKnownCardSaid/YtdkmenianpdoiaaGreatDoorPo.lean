/-
  What the law rests on, part 15. No condition.
-/
import Derived.Test.YtdkmenianpdoiaaGreatDoorPh
import Derived.Test.YtdkmenianpdoiaaGreatDoorPi
import Derived.Test.YtdkmenianpdoiaaGreatDoorPj
import Derived.Test.YtdkmenianpdoiaaGreatDoorPk
import Derived.Test.YtdkmenianpdoiaaGreatDoorPl
import Derived.Test.YtdkmenianpdoiaaGreatDoorPm
import Derived.Test.YtdkmenianpdoiaaGreatDoorPn

namespace Go.Proofs
open Go Go.Vc Go.Ex
set_option maxRecDepth 1000000 in
theorem ImageKnown_law (H : Heap) : Does Tryz.prog 3 [] H fun v H' => v = .bool true ∧ Ext [] H H' := by
  obtain ⟨HV, nV, h6⟩ := last p7
  exact law_of_good rfl (piece s1 p1 (piece s2 p2 (piece s3 p3 (piece s4 p4 (piece s5 p5 (piece s6 p6 h6)))))) H
end Go.Proofs

