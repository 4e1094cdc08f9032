/- slices.Grow at stages: stands in the first shelf at this seat. (At another seat: see the history of this file.) -/
import Derived.Test.YtepfmoaihhonlaaGreatDoorShelf
