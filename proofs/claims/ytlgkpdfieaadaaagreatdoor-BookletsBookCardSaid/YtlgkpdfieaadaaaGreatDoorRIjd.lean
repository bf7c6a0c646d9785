import Derived.Test.YtlgkpdfieaadaaaGreatDoorTie
namespace Go.Proofs.YtlgkpdfieaadaaaGreatDoor.bbok
theorem Bk9:(Rows.bookletsBookRow.named==Tryz.prog.varsNamed 4)=true:=by kernel_rfl
end Go.Proofs.YtlgkpdfieaadaaaGreatDoor.bbok
