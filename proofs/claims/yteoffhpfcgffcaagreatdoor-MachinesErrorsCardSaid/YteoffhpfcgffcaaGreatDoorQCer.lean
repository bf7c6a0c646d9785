import Derived.Test.YteoffhpfcgffcaaGreatDoorQHer
import Derived.Test.YteoffhpfcgffcaaGreatDoorQMjf
import Derived.Test.YteoffhpfcgffcaaGreatDoorQMjg
import Derived.Test.YteoffhpfcgffcaaGreatDoorTie
import Derived.Test.YteoffhpfcgffcaaGreatDoorCards
import Derived.SevenTiedAt
import Derived.KernelRfl
namespace Go.Proofs.YteoffhpfcgffcaaGreatDoor.merr
open Go.ChangeShapes Go.WideShapes Go.ChangeAt Go.RowKit Go.Deep
theorem card:Rows.MachinesErrorsCardSaid:=
 Claim7.holds_tied_plain_at .later [] _ _ _ _ holds (fun _ h=>by cases h) (by kernel_rfl) (fun _ h=>by cases h) machinesErrors_row_tie rfl ⟨rfl,rfl⟩ (by kernel_rfl) rfl
  (fun f fn hf hfn=>by
   obtain rfl:f=3:=Option.some.inj ((show Tryz.prog.funcNamed "crimp/crimplaw41.MachinesErrors" =some 3 by kernel_rfl).symm.trans hf)|>.symm;obtain rfl:fn=Tryz.f3:=(Option.some.inj (Tryz.func3.symm.trans hfn)).symm
   exact⟨k_looks,fun j t ht=>by
    rw[Tryz.params3]at ht;have hm:t∈[24,27,4]:=by simpa using Array.mem_of_getElem? ht
    have hall:([24,27,4].all fun u=> !Tryz.prog.wantsStandIn u)=true:=by kernel_rfl
    exact(show Tryz.prog.wantsStandIn t=false by simpa using List.all_eq_true.1 hall t hm)⟩)
  k_goes
#print axioms card
end Go.Proofs.YteoffhpfcgffcaaGreatDoor.merr
