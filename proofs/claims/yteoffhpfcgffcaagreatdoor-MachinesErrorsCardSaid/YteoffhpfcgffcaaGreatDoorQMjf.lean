import Derived.Test.YteoffhpfcgffcaaGreatDoorRows
import Derived.Test.YteoffhpfcgffcaaGreatDoorTie
import Derived.Test.YteoffhpfcgffcaaGreatDoorCards
import Derived.SevenTiedAt
import Derived.KernelRfl
namespace Go.Proofs.YteoffhpfcgffcaaGreatDoor.merr
theorem k_looks:false=Tryz.pinned.checked.prog.looks []:=by kernel_rfl
end Go.Proofs.YteoffhpfcgffcaaGreatDoor.merr
