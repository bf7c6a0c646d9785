/- The card of BookletsSections: for every binding B the law returns true, where the listed package variables lie as the program's text lays them. -/
import Derived.Test.YtdkijcmhjeaofaaGreatDoorQBc
import Derived.Test.YtdkijcmhjeaofaaGreatDoorQBd
import Derived.Test.YtdkijcmhjeaofaaGreatDoorQBe
import Derived.Test.YtdkijcmhjeaofaaGreatDoorTie
import Derived.Test.YtdkijcmhjeaofaaGreatDoorCards
import Derived.SevenTiedAt
import Derived.KernelRfl
namespace Go.Proofs.YtdkijcmhjeaofaaGreatDoor.bsec
open Go.ChangeShapes Go.WideShapes Go.ChangeAt Go.RowKit Go.Deep

theorem card : Rows.BookletsSectionsCardSaid :=
  Claim7.holds_tied_plain_at .later [] _ _ _ _ holds (fun _ h => by cases h) (by kernel_rfl) (fun _ h => by cases h) bookletsSections_row_tie rfl ⟨rfl, rfl⟩ (by kernel_rfl) rfl
    (fun f fn hf hfn => by
      obtain rfl : f = 3 := Option.some.inj ((show Tryz.prog.funcNamed "crimp/crimplaw37.BookletsSections" = some 3 by kernel_rfl).symm.trans hf) |>.symm
      obtain rfl : fn = Tryz.f3 := (Option.some.inj (Tryz.func3.symm.trans hfn)).symm
      exact ⟨k_looks, fun j t ht => by
        rw [Tryz.params3] at ht
        have hm : t ∈ [24] := by simpa using Array.mem_of_getElem? ht
        have hall : ([24].all fun u => !Tryz.prog.wantsStandIn u) = true := by kernel_rfl
        exact (show Tryz.prog.wantsStandIn t = false by simpa using List.all_eq_true.1 hall t hm)⟩)
    k_goes
#print axioms card
end Go.Proofs.YtdkijcmhjeaofaaGreatDoor.bsec
