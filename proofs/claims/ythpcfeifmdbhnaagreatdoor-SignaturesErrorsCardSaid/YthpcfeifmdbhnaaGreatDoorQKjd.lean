/- The row's part 'named' is the text's, reckoned by the kernel. -/
import Derived.Test.YthpcfeifmdbhnaaGreatDoorRows
import Derived.Test.YthpcfeifmdbhnaaGreatDoorTie
import Derived.JoinedOf
import Derived.KernelRfl
namespace Go.Proofs.YthpcfeifmdbhnaaGreatDoor.serr
theorem Aj8:(Rows.signaturesErrorsRow.named==Tryz.prog.varsNamed 5)=true:=by kernel_rfl
end Go.Proofs.YthpcfeifmdbhnaaGreatDoor.serr
