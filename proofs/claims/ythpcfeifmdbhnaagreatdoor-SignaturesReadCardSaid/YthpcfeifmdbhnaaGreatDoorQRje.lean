import Derived.Test.YthpcfeifmdbhnaaGreatDoorQRja
import Derived.Test.YthpcfeifmdbhnaaGreatDoorQRjb
import Derived.Test.YthpcfeifmdbhnaaGreatDoorQRjc
import Derived.Test.YthpcfeifmdbhnaaGreatDoorQRjd
namespace Go.Proofs.YthpcfeifmdbhnaaGreatDoor.sread
theorem Av3:joinedFacts Tryz.prog 3 Tryz.f3 Rows.signaturesReadSpec Rows.signaturesReadRow=true:=by
 unfold joinedFacts;rw[tF,dJ,lZ,Aj8]
 kernel_rfl
end Go.Proofs.YthpcfeifmdbhnaaGreatDoor.sread
