/- JudgeRatiosMatchSpec: the law's walk. -/
import Derived.Test.YtpmnhdgajkickaaGreatDoorB26
import Derived.Test.YtpmnhdgajkickaaGreatDoorRtPub
import Derived.Test.YtpmnhdgajkickaaGreatDoorB8
namespace Go.Proofs.YtpmnhdgajkickaaGreatDoor
open Go Go.RowKit Go.Proofs

section
variable {P : Program} {Q : Exit → Act → World → Prop} {md : Region.Mode} {ops : Array Oper} {S : World → Prop}
end
end Go.Proofs.YtpmnhdgajkickaaGreatDoor
