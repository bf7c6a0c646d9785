import Derived.Test.YthpcfeifmdbhnaaGreatDoorRows
import Derived.Test.YthpcfeifmdbhnaaGreatDoorTie
import Derived.JoinedOf
import Derived.KernelRfl
namespace Go.Proofs.YthpcfeifmdbhnaaGreatDoor.sread
theorem lZ:(Rows.signaturesReadRow.recurses==Tryz.prog.recurses 3)=true:=by kernel_rfl
end Go.Proofs.YthpcfeifmdbhnaaGreatDoor.sread
