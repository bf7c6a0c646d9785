/- The row's part 'inPlace' is the text's, reckoned by the kernel. -/
import Derived.Test.YthpcfeifmdbhnaaGreatDoorRows
import Derived.Test.YthpcfeifmdbhnaaGreatDoorTie
import Derived.JoinedOf
import Derived.KernelRfl
namespace Go.Proofs.YthpcfeifmdbhnaaGreatDoor.sfrm
theorem tF:(Rows.signaturesFormeRow.inPlace==Tryz.prog.inPlace 4)=true:=by kernel_rfl
end Go.Proofs.YthpcfeifmdbhnaaGreatDoor.sfrm
