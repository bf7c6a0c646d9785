/- The card of SignaturesForme: for every input the law returns true, where the listed package variables lie as the program's text lays them. -/
import Derived.Test.YthpcfeifmdbhnaaGreatDoorQHsf
import Derived.Test.YthpcfeifmdbhnaaGreatDoorQUjf
import Derived.Test.YthpcfeifmdbhnaaGreatDoorQUjg
import Derived.Test.YthpcfeifmdbhnaaGreatDoorTie
import Derived.Test.YthpcfeifmdbhnaaGreatDoorCards
import Derived.SevenTiedAt
import Derived.KernelRfl
open Option renaming some→Af
namespace Go.Proofs.YthpcfeifmdbhnaaGreatDoor.sfrm
open Go.ChangeShapes Go.WideShapes Go.ChangeAt Go.RowKit Go.Deep
theorem card:Rows.SignaturesFormeCardSaid:=
 Claim7.holds_tied_plain_at .later [] _ _ _ _ holds (λ_ h=>by cases h) Cm (λ_ h=>by cases h) signaturesForme_row_tie rfl ⟨rfl,rfl⟩ Cm rfl
  (λf fn hf hfn=>by
   obtain rfl:f=4:=Option.some.inj ((show Tryz.prog.funcNamed "crimp/crimplaw36.SignaturesForme" =Af 4 by kernel_rfl).symm.trans hf)|>.symm;obtain rfl:fn=Tryz.f4:=(Option.some.inj (Tryz.func4.symm.trans hfn)).symm
   exact⟨Aj9,λj t ht=>by
    rw[Tryz.params4]at ht;have hm:t∈[23,56]:=by simpa using Array.mem_of_getElem? ht
    have hall:([23,56].all λu=> !Tryz.prog.wantsStandIn u)=true:=Cm;exact(show Tryz.prog.wantsStandIn t=false by simpa using List.all_eq_true.1 hall t hm)⟩)
  Av4
#print axioms card
end Go.Proofs.YthpcfeifmdbhnaaGreatDoor.sfrm
