/-
  What the law rests on, part 12. No condition.
-/
import Derived.Test.YtclfndmadaammaaGreatDoorCards
import Derived.Test.YtclfndmadaammaaGreatDoorTie
import Derived.WalkKit
import Derived.ProofKit
import Derived.JoinedCond

namespace Go.Proofs.YtclfndmadaammaaGreatDoor.auditKnown
open Go
theorem g1 : Rows.auditKnownRow.wfByText (OpenSpec.ofChange Rows.auditKnownSpec) = true := by kernel_rfl
theorem g2 : false = Rows.auditKnownRow.goesBy Tryz.pinned.checked.prog := by kernel_rfl
end Go.Proofs.YtclfndmadaammaaGreatDoor.auditKnown

