import Derived.Test.YtlgkpdfieaadaaaGreatDoorTie
import Derived.Test.YtlgkpdfieaadaaaGreatDoorCards
namespace Go.Proofs.YtlgkpdfieaadaaaGreatDoor.bbok
theorem Bl1:false=Tryz.pinned.checked.prog.looks []:=by kernel_rfl
theorem By1:false=Rows.bookletsBookRow.goesBy Tryz.pinned.checked.prog:=by kernel_rfl
end Go.Proofs.YtlgkpdfieaadaaaGreatDoor.bbok
