/- lives of crimplaw35 returns true in every world, and leaves all memory as it was: the executor's run, by the kernel. The one condition: none. -/
import Derived.Test.YtcgbdkjelbgcfaaGreatDoorFq
import Derived.Test.YtcgbdkjelbgcfaaGreatDoorProg
import Derived.Test.YtcgbdkjelbgcfaaGreatDoorChecked
import Derived.KernelRfl
namespace Go.Proofs.YtcgbdkjelbgcfaaGreatDoor
open Ex

noncomputable def extM : FuncId → List AV → Option AV := ext3 61 85 90
noncomputable def livesRun : CRes := run 0 Tryz.prog extM (fun call => doDrawn 0 Tryz.prog extM call) 300 4 [] ⟨.e, 0⟩
noncomputable def livesIs : Bool := match livesRun with
  | .ok (.bool true) _ => true
  | _ => false
set_option maxRecDepth 100000 in
theorem livesIs_true : livesIs = true := by kernel_rfl

end Go.Proofs.YtcgbdkjelbgcfaaGreatDoor
