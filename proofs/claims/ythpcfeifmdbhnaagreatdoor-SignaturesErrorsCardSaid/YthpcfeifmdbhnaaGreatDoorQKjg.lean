/- The row starts no thread, reckoned by the kernel. -/
import Derived.Test.YthpcfeifmdbhnaaGreatDoorRows
import Derived.Test.YthpcfeifmdbhnaaGreatDoorTie
import Derived.Test.YthpcfeifmdbhnaaGreatDoorCards
import Derived.SevenTiedAt
import Derived.KernelRfl
namespace Go.Proofs.YthpcfeifmdbhnaaGreatDoor.serr
theorem Av4:false=Rows.signaturesErrorsRow.goesBy Tryz.pinned.checked.prog:=by kernel_rfl
end Go.Proofs.YthpcfeifmdbhnaaGreatDoor.serr
