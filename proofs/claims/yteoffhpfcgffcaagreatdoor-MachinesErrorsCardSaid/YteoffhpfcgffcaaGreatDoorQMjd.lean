import Derived.Test.YteoffhpfcgffcaaGreatDoorRows
import Derived.Test.YteoffhpfcgffcaaGreatDoorTie
import Derived.JoinedOf
import Derived.KernelRfl
namespace Go.Proofs.YteoffhpfcgffcaaGreatDoor.merr
theorem j_named:(Rows.machinesErrorsRow.named==Tryz.prog.varsNamed 3)=true:=by kernel_rfl
end Go.Proofs.YteoffhpfcgffcaaGreatDoor.merr
