import Derived.Test.YteoffhpfcgffcaaGreatDoorRows
import Derived.Test.YteoffhpfcgffcaaGreatDoorTie
import Derived.Test.YteoffhpfcgffcaaGreatDoorCards
import Derived.SevenTiedAt
import Derived.KernelRfl
namespace Go.Proofs.YteoffhpfcgffcaaGreatDoor.merr
theorem k_goes:false=Rows.machinesErrorsRow.goesBy Tryz.pinned.checked.prog:=by kernel_rfl
end Go.Proofs.YteoffhpfcgffcaaGreatDoor.merr
