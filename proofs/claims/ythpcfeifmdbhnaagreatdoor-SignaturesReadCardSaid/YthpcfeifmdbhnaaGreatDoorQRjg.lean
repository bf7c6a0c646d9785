import Derived.Test.YthpcfeifmdbhnaaGreatDoorRows
import Derived.Test.YthpcfeifmdbhnaaGreatDoorTie
import Derived.Test.YthpcfeifmdbhnaaGreatDoorCards
import Derived.SevenTiedAt
import Derived.KernelRfl
namespace Go.Proofs.YthpcfeifmdbhnaaGreatDoor.sread
theorem Av4:false=Rows.signaturesReadRow.goesBy Tryz.pinned.checked.prog:=by kernel_rfl
end Go.Proofs.YthpcfeifmdbhnaaGreatDoor.sread
