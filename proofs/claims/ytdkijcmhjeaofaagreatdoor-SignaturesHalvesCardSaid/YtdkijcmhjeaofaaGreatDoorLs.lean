/- lives of crimplaw36 returns true in every world that holds the three tables, and leaves all memory as it was: a run by the kernel. The three conditions: the tables of quarters, of turns and of powers of ten. -/
import Derived.Test.YtdkijcmhjeaofaaGreatDoorMb
import Derived.Test.YtdkijcmhjeaofaaGreatDoorJn
namespace Go.Proofs.YtdkijcmhjeaofaaGreatDoor
open Ex Go.RowKit

noncomputable def xJ36 : FuncId → List AV → St → CRes := xtM 72 xItoa (xtM 73 xJoin xmd22b)
theorem xJ36_ok {W : World} (hQ : Qf W) (hT : Tn W) (hP : Pw W) : Known1 W xJ36 := fun _ => xItoa_ok hP (xJoin_ok (xmd22b_ok hQ hT _))
set_option maxRecDepth 100000
theorem lives36_true : isTrue xJ36 10 = true := by kernel_rfl
theorem lives36_ok (w : World) (hQ : Qf w) (hT : Tn w) (hP : Pw w) : Calls Tryz.prog 10 #[] w fun e w' => e = .returned (.bool true) ∧ Below w.heap.size w w' := isTrue_ok lives36_true hQ hT (xJ36_ok hQ hT hP)
end Go.Proofs.YtdkijcmhjeaofaaGreatDoor
