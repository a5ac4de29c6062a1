/- Rule: how an argument of it opens; the walks of its size, copy and comparison. -/
import Derived.Test.YtahclhldpcboeaaGreatDoorIntsB
import Derived.Test.YtahclhldpcboeaaGreatDoorOpen
import Derived.Test.YtahclhldpcboeaaGreatDoorTFact
namespace Go.Proofs.YtahclhldpcboeaaGreatDoor
open Go Go.RowKit
end Go.Proofs.YtahclhldpcboeaaGreatDoor
