import Derived.Test.YthpcfeifmdbhnaaGreatDoorRows
import Derived.Test.YthpcfeifmdbhnaaGreatDoorTie
import Derived.JoinedOf
import Derived.KernelRfl
namespace Go.Proofs.YthpcfeifmdbhnaaGreatDoor.sread
theorem dJ:(Rows.signaturesReadRow.unfollowed==Tryz.prog.unfollowed 3)=true:=by kernel_rfl
end Go.Proofs.YthpcfeifmdbhnaaGreatDoor.sread
