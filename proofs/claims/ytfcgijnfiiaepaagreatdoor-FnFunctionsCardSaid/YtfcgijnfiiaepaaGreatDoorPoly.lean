/- Contracts of IsPolymatroid, both packages. -/
import Derived.Test.YtfcgijnfiiaepaaGreatDoorMono
import Derived.Test.YtfcgijnfiiaepaaGreatDoorViol2
namespace Go.Proofs.YtfcgijnfiiaepaaGreatDoor
set_option linter.unusedSimpArgs false
set_option linter.unusedVariables false
open Go.RowKit

/-- What IsPolymatroid returns. -/
def polyB (n : Int) (xs : List Int) : Bool := groundB n xs && incB n xs && subB n xs
end Go.Proofs.YtfcgijnfiiaepaaGreatDoor
