/- What the row says of the text, reckoned by the kernel. -/
import Derived.Test.YthpcfeifmdbhnaaGreatDoorQKja
import Derived.Test.YthpcfeifmdbhnaaGreatDoorQKjb
import Derived.Test.YthpcfeifmdbhnaaGreatDoorQKjc
import Derived.Test.YthpcfeifmdbhnaaGreatDoorQKjd
namespace Go.Proofs.YthpcfeifmdbhnaaGreatDoor.serr
theorem Av3:joinedFacts Tryz.prog 5 Tryz.f5 Rows.signaturesErrorsSpec Rows.signaturesErrorsRow=true:=by
 unfold joinedFacts;rw[tF,dJ,lZ,Aj8]
 kernel_rfl
end Go.Proofs.YthpcfeifmdbhnaaGreatDoor.serr
