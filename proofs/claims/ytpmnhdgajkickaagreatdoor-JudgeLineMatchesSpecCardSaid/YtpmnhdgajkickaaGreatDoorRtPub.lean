/- Ratios: CheckRatio and Compare of package judge, Compare of the reference. -/
import Derived.Test.YtpmnhdgajkickaaGreatDoorJRead
import Derived.Test.YtpmnhdgajkickaaGreatDoorB24
namespace Go.Proofs.YtpmnhdgajkickaaGreatDoor
open Go Go.RowKit Go.Proofs

end Go.Proofs.YtpmnhdgajkickaaGreatDoor
