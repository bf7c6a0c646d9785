import Derived.Test.YteoffhpfcgffcaaGreatDoorRows
import Derived.Test.YteoffhpfcgffcaaGreatDoorTie
import Derived.JoinedOf
import Derived.KernelRfl
namespace Go.Proofs.YteoffhpfcgffcaaGreatDoor.merr
theorem j_recurses:(Rows.machinesErrorsRow.recurses==Tryz.prog.recurses 3)=true:=by kernel_rfl
end Go.Proofs.YteoffhpfcgffcaaGreatDoor.merr
