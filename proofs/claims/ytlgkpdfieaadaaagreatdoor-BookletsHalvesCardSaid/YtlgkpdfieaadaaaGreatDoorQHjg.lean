import Derived.Test.YtlgkpdfieaadaaaGreatDoorRows
import Derived.Test.YtlgkpdfieaadaaaGreatDoorTie
import Derived.Test.YtlgkpdfieaadaaaGreatDoorCards
import Derived.SevenTiedAt
import Derived.KernelRfl
namespace Go.Proofs.YtlgkpdfieaadaaaGreatDoor.bhlv
theorem Bi7:false=Tryz.pinned.checked.prog.looks []:=by kernel_rfl
theorem Bu7:false=Rows.bookletsHalvesRow.goesBy Tryz.pinned.checked.prog:=by kernel_rfl
end Go.Proofs.YtlgkpdfieaadaaaGreatDoor.bhlv
