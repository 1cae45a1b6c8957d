/-
  What the law rests on, part 16. No condition.
-/
import Derived.Test.YtopjnbmggagloaaGreatDoorPg
import Derived.Test.YtopjnbmggagloaaGreatDoorPh
import Derived.Test.YtopjnbmggagloaaGreatDoorPi
import Derived.Test.YtopjnbmggagloaaGreatDoorPj
import Derived.Test.YtopjnbmggagloaaGreatDoorPk
import Derived.Test.YtopjnbmggagloaaGreatDoorPl
import Derived.Test.YtopjnbmggagloaaGreatDoorPm
import Derived.Test.YtopjnbmggagloaaGreatDoorPn
import Derived.Test.YtopjnbmggagloaaGreatDoorPo

namespace Go.Proofs
open Go Go.Vc Go.Ex
set_option maxRecDepth 1000000 in
theorem FsKnown_law (H : Heap) : Does Tryz.prog 3 [] H fun v H' => v = .bool true ∧ Ext [] H H' := by
  obtain ⟨HV, nV, h8⟩ := last p9
  exact law_of_good rfl (piece s1 p1 (piece s2 p2 (piece s3 p3 (piece s4 p4 (piece s5 p5 (piece s6 p6 (piece s7 p7 (piece s8 p8 h8)))))))) H
end Go.Proofs

