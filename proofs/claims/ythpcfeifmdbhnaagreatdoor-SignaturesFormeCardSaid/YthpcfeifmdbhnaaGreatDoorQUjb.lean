/- The row's part 'unfollowed' is the text's, reckoned by the kernel. -/
import Derived.Test.YthpcfeifmdbhnaaGreatDoorRows
import Derived.Test.YthpcfeifmdbhnaaGreatDoorTie
import Derived.JoinedOf
import Derived.KernelRfl
namespace Go.Proofs.YthpcfeifmdbhnaaGreatDoor.sfrm
theorem dJ:(Rows.signaturesFormeRow.unfollowed==Tryz.prog.unfollowed 4)=true:=by kernel_rfl
end Go.Proofs.YthpcfeifmdbhnaaGreatDoor.sfrm
