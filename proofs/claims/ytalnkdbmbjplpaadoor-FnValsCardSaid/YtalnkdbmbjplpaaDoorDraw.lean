/- The reference's draws, together. -/
import Derived.Test.YtalnkdbmbjplpaaDoorDrawS
import Derived.Test.YtalnkdbmbjplpaaDoorDrawM
