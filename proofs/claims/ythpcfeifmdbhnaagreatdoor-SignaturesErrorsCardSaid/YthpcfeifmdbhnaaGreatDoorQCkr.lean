/- The card of SignaturesErrors: for every input the law returns true, where the listed package variables lie as the program's text lays them. -/
import Derived.Test.YthpcfeifmdbhnaaGreatDoorQHse
import Derived.Test.YthpcfeifmdbhnaaGreatDoorQKjf
import Derived.Test.YthpcfeifmdbhnaaGreatDoorQKjg
import Derived.Test.YthpcfeifmdbhnaaGreatDoorTie
import Derived.Test.YthpcfeifmdbhnaaGreatDoorCards
import Derived.SevenTiedAt
import Derived.KernelRfl
open Option renaming some→Af
namespace Go.Proofs.YthpcfeifmdbhnaaGreatDoor.serr
open Go.ChangeShapes Go.WideShapes Go.ChangeAt Go.RowKit Go.Deep
theorem card:Rows.SignaturesErrorsCardSaid:=
 Claim7.holds_tied_plain_at .later [] _ _ _ _ holds (λ_ h=>by cases h) Cm (λ_ h=>by cases h) signaturesErrors_row_tie rfl ⟨rfl,rfl⟩ Cm rfl
  (λf fn hf hfn=>by
   obtain rfl:f=5:=Option.some.inj ((show Tryz.prog.funcNamed "crimp/crimplaw36.SignaturesErrors" =Af 5 by kernel_rfl).symm.trans hf)|>.symm;obtain rfl:fn=Tryz.f5:=(Option.some.inj (Tryz.func5.symm.trans hfn)).symm
   exact⟨Aj9,λj t ht=>by
    rw[Tryz.params5]at ht;have hm:t∈[39,23]:=by simpa using Array.mem_of_getElem? ht
    have hall:([39,23].all λu=> !Tryz.prog.wantsStandIn u)=true:=Cm;exact(show Tryz.prog.wantsStandIn t=false by simpa using List.all_eq_true.1 hall t hm)⟩)
  Av4
#print axioms card
end Go.Proofs.YthpcfeifmdbhnaaGreatDoor.serr
