import Derived.Test.YthpcfeifmdbhnaaGreatDoorQHsr
import Derived.Test.YthpcfeifmdbhnaaGreatDoorQRjf
import Derived.Test.YthpcfeifmdbhnaaGreatDoorQRjg
import Derived.Test.YthpcfeifmdbhnaaGreatDoorTie
import Derived.Test.YthpcfeifmdbhnaaGreatDoorCards
import Derived.SevenTiedAt
import Derived.KernelRfl
open Option renaming some→Af
namespace Go.Proofs.YthpcfeifmdbhnaaGreatDoor.sread
open Go.ChangeShapes Go.WideShapes Go.ChangeAt Go.RowKit Go.Deep
theorem card:Rows.SignaturesReadCardSaid:=
 Claim7.holds_tied_plain_at .later [] _ _ _ _ holds (λ_ h=>by cases h) Cm (λ_ h=>by cases h) signaturesRead_row_tie rfl ⟨rfl,rfl⟩ Cm rfl
  (λf fn hf hfn=>by
   obtain rfl:f=3:=Option.some.inj ((show Tryz.prog.funcNamed "crimp/crimplaw36.SignaturesRead" =Af 3 by kernel_rfl).symm.trans hf)|>.symm;obtain rfl:fn=Tryz.f3:=(Option.some.inj (Tryz.func3.symm.trans hfn)).symm
   exact⟨Aj9,λj t ht=>by
    rw[Tryz.params3]at ht;have hm:t∈[23]:=by simpa using Array.mem_of_getElem? ht
    have hall:([23].all λu=> !Tryz.prog.wantsStandIn u)=true:=Cm;exact(show Tryz.prog.wantsStandIn t=false by simpa using List.all_eq_true.1 hall t hm)⟩)
  Av4
#print axioms card
end Go.Proofs.YthpcfeifmdbhnaaGreatDoor.sread
