import Derived.Test.YtlgkpdfieaadaaaGreatDoorRHbk
import Derived.Test.YtlgkpdfieaadaaaGreatDoorRIjg
open Option renaming some->Af
namespace Go.Proofs.YtlgkpdfieaadaaaGreatDoor.bbok
open Go.ChangeShapes Go.WideShapes Go.ChangeAt Go.RowKit Go.Deep
theorem card:Rows.BookletsBookCardSaid:=
 Claim7.holds_tied_plain_at .later [] _ _ _ _ holds (λ_ h=>by cases h) Gx (λ_ h=>by cases h) bookletsBook_row_tie rfl ⟨rfl,rfl⟩ Gx rfl
  (λf fn hf hfn=>by
   obtain rfl:f=4:=Option.some.inj ((show Tryz.prog.funcNamed "crimp/crimplaw37.BookletsBook" =Af 4 by kernel_rfl).symm.trans hf)|>.symm;obtain rfl:fn=Tryz.f4:=(Option.some.inj (Tryz.func4.symm.trans hfn)).symm
   exact⟨Bl1,λj t ht=>by
    rw[Tryz.params4]at ht;have hm:t∈[23,58,4]:=by simpa using Array.mem_of_getElem? ht
    have fj:([23,58,4].all λu=> !Tryz.prog.wantsStandIn u)=true:=Gx;exact(show Tryz.prog.wantsStandIn t=false by simpa using List.all_eq_true.1 fj t hm)⟩)
  By1
#print axioms card
end Go.Proofs.YtlgkpdfieaadaaaGreatDoor.bbok
