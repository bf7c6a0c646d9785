import Derived.Test.YtlgkpdfieaadaaaGreatDoorRIja
import Derived.Test.YtlgkpdfieaadaaaGreatDoorRIjb
import Derived.Test.YtlgkpdfieaadaaaGreatDoorRIjc
import Derived.Test.YtlgkpdfieaadaaaGreatDoorRIjd
namespace Go.Proofs.YtlgkpdfieaadaaaGreatDoor.bbok
theorem Bx6:joinedFacts Tryz.prog 4 Tryz.f4 Rows.bookletsBookSpec Rows.bookletsBookRow=true:=by
 unfold joinedFacts;rw[Ag3,lX,uR,Bk9]
 kernel_rfl
end Go.Proofs.YtlgkpdfieaadaaaGreatDoor.bbok
