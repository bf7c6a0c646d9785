/- The row's part 'inPlace' is the text's, reckoned by the kernel. -/
import Derived.Test.YthpcfeifmdbhnaaGreatDoorRows
import Derived.Test.YthpcfeifmdbhnaaGreatDoorTie
import Derived.JoinedOf
import Derived.KernelRfl
namespace Go.Proofs.YthpcfeifmdbhnaaGreatDoor.serr
theorem tF:(Rows.signaturesErrorsRow.inPlace==Tryz.prog.inPlace 5)=true:=by kernel_rfl
end Go.Proofs.YthpcfeifmdbhnaaGreatDoor.serr
