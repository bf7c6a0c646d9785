import Derived.Test.YthpcfeifmdbhnaaGreatDoorRows
import Derived.Test.YthpcfeifmdbhnaaGreatDoorTie
import Derived.Test.YthpcfeifmdbhnaaGreatDoorCards
import Derived.SevenTiedAt
import Derived.KernelRfl
namespace Go.Proofs.YthpcfeifmdbhnaaGreatDoor.sread
theorem Aj9:false=Tryz.pinned.checked.prog.looks []:=by kernel_rfl
end Go.Proofs.YthpcfeifmdbhnaaGreatDoor.sread
