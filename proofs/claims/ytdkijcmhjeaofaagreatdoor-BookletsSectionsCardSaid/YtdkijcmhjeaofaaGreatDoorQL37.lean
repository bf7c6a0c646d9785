/- lives of crimplaw37 returns true in every world that holds the two tables, and leaves all memory as it was: a run by the kernel. The two conditions: the tables of quarters and of turns. -/
import Derived.Test.YtdkijcmhjeaofaaGreatDoorQMb
namespace Go.Proofs.YtdkijcmhjeaofaaGreatDoor
open Ex Go.RowKit

set_option maxRecDepth 100000
theorem lives37_true : isTrue xmd22b 9 = true := by kernel_rfl
theorem lives37_ok (w : World) (hQ : Qf w) (hT : Tn w) : Calls Tryz.prog 9 #[] w fun e w' => e = .returned (.bool true) ∧ Below w.heap.size w w' := isTrue_ok lives37_true hQ hT (xmd22b_ok hQ hT)
end Go.Proofs.YtdkijcmhjeaofaaGreatDoor
