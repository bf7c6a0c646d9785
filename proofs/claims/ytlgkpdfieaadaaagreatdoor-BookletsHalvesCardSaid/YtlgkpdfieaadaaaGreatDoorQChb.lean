import Derived.Test.YtlgkpdfieaadaaaGreatDoorQHsb
import Derived.Test.YtlgkpdfieaadaaaGreatDoorQHjg
import Derived.Test.YtlgkpdfieaadaaaGreatDoorTie
import Derived.Test.YtlgkpdfieaadaaaGreatDoorCards
import Derived.SevenTiedAt
import Derived.KernelRfl
open Option renaming some->Af
namespace Go.Proofs.YtlgkpdfieaadaaaGreatDoor.bhlv
open Go.ChangeShapes Go.WideShapes Go.ChangeAt Go.RowKit Go.Deep
theorem card:Rows.BookletsHalvesCardSaid:=
 Claim7.holds_tied_plain_at .later [] _ _ _ _ holds (λ_ h=>by cases h) Gw (λ_ h=>by cases h) bookletsHalves_row_tie rfl ⟨rfl,rfl⟩ Gw rfl
  (λf fn hf hfn=>by
   obtain rfl:f=3:=Option.some.inj ((show Tryz.prog.funcNamed "crimp/crimplaw37.BookletsHalves" =Af 3 by kernel_rfl).symm.trans hf)|>.symm;obtain rfl:fn=Tryz.f3:=(Option.some.inj (Tryz.func3.symm.trans hfn)).symm
   exact⟨Bi7,λj t ht=>by
    rw[Tryz.params3]at ht;have hm:t∈[23]:=by simpa using Array.mem_of_getElem? ht
    have fe:([23].all λu=> !Tryz.prog.wantsStandIn u)=true:=Gw;exact(show Tryz.prog.wantsStandIn t=false by simpa using List.all_eq_true.1 fe t hm)⟩)
  Bu7
#print axioms card
end Go.Proofs.YtlgkpdfieaadaaaGreatDoor.bhlv
