/- PrintBack walked: the text of what may be is parsed to just that. -/
import Derived.Test.YtpgdplmndnopbaaGreatDoorJnC
import Derived.Test.YtpgdplmndnopbaaGreatDoorSmA
import Derived.Test.YtpgdplmndnopbaaGreatDoorTreeJ
import Derived.Test.YtpgdplmndnopbaaGreatDoorTreeR
import Derived.Test.YtpgdplmndnopbaaGreatDoorMgG
namespace Go.Proofs.YtpgdplmndnopbaaGreatDoor
open Go.RowKit
theorem small_of {m n : Nat} {t : XT m n} (hb : bndX n t) (h : decide (2000 < sizeX n t 2000) = false) : tX n t ≤ 2000 := by
 have h1 := sizeX_le n t hb 2000 (by omega) (by omega)
 have h2 : sizeX n t 2000 ≤ 2000 := by simpa using h
 have h3 := h1.2.2 h2
 omega
end Go.Proofs.YtpgdplmndnopbaaGreatDoor