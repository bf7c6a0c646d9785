import Derived.Test.YteoffhpfcgffcaaGreatDoorQMja
import Derived.Test.YteoffhpfcgffcaaGreatDoorQMjb
import Derived.Test.YteoffhpfcgffcaaGreatDoorQMjc
import Derived.Test.YteoffhpfcgffcaaGreatDoorQMjd
namespace Go.Proofs.YteoffhpfcgffcaaGreatDoor.merr
theorem Aa6:joinedFacts Tryz.prog 3 Tryz.f3 Rows.machinesErrorsSpec Rows.machinesErrorsRow=true:=by
 unfold joinedFacts;rw[j_inPlace,j_unfollowed,j_recurses,j_named]
 kernel_rfl
end Go.Proofs.YteoffhpfcgffcaaGreatDoor.merr
