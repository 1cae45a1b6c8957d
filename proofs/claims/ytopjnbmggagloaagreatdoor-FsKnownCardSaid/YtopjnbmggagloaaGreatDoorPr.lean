/-
  What the law rests on, part 18. No condition.
-/
import Derived.Test.YtopjnbmggagloaaGreatDoorCards
import Derived.Test.YtopjnbmggagloaaGreatDoorTie
import Derived.WalkKit
import Derived.ProofKit
import Derived.JoinedCond

namespace Go.Proofs.YtopjnbmggagloaaGreatDoor.fsKnown
open Go
theorem g1 : Rows.fsKnownRow.wfByText (OpenSpec.ofChange Rows.fsKnownSpec) = true := by kernel_rfl
theorem g2 : false = Rows.fsKnownRow.goesBy Tryz.pinned.checked.prog := by kernel_rfl
end Go.Proofs.YtopjnbmggagloaaGreatDoor.fsKnown

