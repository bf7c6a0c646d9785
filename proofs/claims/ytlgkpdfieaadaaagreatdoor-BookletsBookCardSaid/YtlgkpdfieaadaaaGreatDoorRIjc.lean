import Derived.Test.YtlgkpdfieaadaaaGreatDoorTie
namespace Go.Proofs.YtlgkpdfieaadaaaGreatDoor.bbok
theorem uR:(Rows.bookletsBookRow.recurses==Tryz.prog.recurses 4)=true:=by kernel_rfl
end Go.Proofs.YtlgkpdfieaadaaaGreatDoor.bbok
