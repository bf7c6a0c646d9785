/- What the row says of the text, reckoned by the kernel. -/
import Derived.Test.YthpcfeifmdbhnaaGreatDoorQUja
import Derived.Test.YthpcfeifmdbhnaaGreatDoorQUjb
import Derived.Test.YthpcfeifmdbhnaaGreatDoorQUjc
import Derived.Test.YthpcfeifmdbhnaaGreatDoorQUjd
namespace Go.Proofs.YthpcfeifmdbhnaaGreatDoor.sfrm
theorem Av3:joinedFacts Tryz.prog 4 Tryz.f4 Rows.signaturesFormeSpec Rows.signaturesFormeRow=true:=by
 unfold joinedFacts;rw[tF,dJ,lZ,Aj8]
 kernel_rfl
end Go.Proofs.YthpcfeifmdbhnaaGreatDoor.sfrm
