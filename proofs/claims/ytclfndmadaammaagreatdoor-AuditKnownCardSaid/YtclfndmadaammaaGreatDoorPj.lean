/-
  What the law rests on, part 10. No condition.
-/
import Derived.Test.YtclfndmadaammaaGreatDoorPg
import Derived.Test.YtclfndmadaammaaGreatDoorPh
import Derived.Test.YtclfndmadaammaaGreatDoorPi

namespace Go.Proofs
open Go Go.Vc Go.Ex
set_option maxRecDepth 1000000 in
theorem AuditKnown_law (H : Heap) : Does Tryz.prog 3 [] H fun v H' => v = .bool true ∧ Ext [] H H' := by
  obtain ⟨HV, nV, h2⟩ := last p3
  exact law_of_good rfl (piece s1 p1 (piece s2 p2 h2)) H
end Go.Proofs

