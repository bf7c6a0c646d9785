import Derived.Test.YthpcfeifmdbhnaaGreatDoorRows
import Derived.Test.YthpcfeifmdbhnaaGreatDoorTie
import Derived.JoinedOf
import Derived.KernelRfl
namespace Go.Proofs.YthpcfeifmdbhnaaGreatDoor.sread
theorem Aj8:(Rows.signaturesReadRow.named==Tryz.prog.varsNamed 3)=true:=by kernel_rfl
end Go.Proofs.YthpcfeifmdbhnaaGreatDoor.sread
