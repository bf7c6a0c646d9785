import Derived.Test.YtlgkpdfieaadaaaGreatDoorTie
namespace Go.Proofs.YtlgkpdfieaadaaaGreatDoor.bbok
theorem Ag3:(Rows.bookletsBookRow.inPlace==Tryz.prog.inPlace 4)=true:=by kernel_rfl
end Go.Proofs.YtlgkpdfieaadaaaGreatDoor.bbok
