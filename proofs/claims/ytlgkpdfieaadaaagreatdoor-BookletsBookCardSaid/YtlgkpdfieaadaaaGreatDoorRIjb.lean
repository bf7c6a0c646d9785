import Derived.Test.YtlgkpdfieaadaaaGreatDoorTie
namespace Go.Proofs.YtlgkpdfieaadaaaGreatDoor.bbok
theorem lX:(Rows.bookletsBookRow.unfollowed==Tryz.prog.unfollowed 4)=true:=by kernel_rfl
end Go.Proofs.YtlgkpdfieaadaaaGreatDoor.bbok
