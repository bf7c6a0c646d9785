/- lives of crimplaw35 returns true in every world, and leaves all memory as it was. No condition. -/
import Derived.Test.YtcgbdkjelbgcfaaGreatDoorLiv
namespace Go.Proofs.YtcgbdkjelbgcfaaGreatDoor
open Ex Go.RowKit

theorem extM_ok : ExtOk Tryz.prog extM := by
  refine ext3_ok (fun x w => ?_) (fun args w => ?_) (fun args w => ?_)
  · exact run_callFunc_extern (e := Extern.AbiNoEscape.same) Tryz.func61 (by kernel_rfl) (by kernel_rfl) (by kernel_rfl) (by kernel_rfl) #[x] w
  · exact run_callFunc_extern Tryz.func85 (by kernel_rfl) (by kernel_rfl) (by kernel_rfl) (by kernel_rfl) args w
  · exact run_callFunc_extern Tryz.func90 (by kernel_rfl) (by kernel_rfl) (by kernel_rfl) (by kernel_rfl) args w

theorem mixedP : Tryz.prog.follows .mixedOrders = true := by kernel_rfl

theorem lives_ok (w : World) : Calls Tryz.prog 4 #[] w fun e w' => e = .returned (.bool true) ∧ Below w.heap.size w w' := by
  have h := livesIs_true
  unfold livesIs at h
  split at h
  · rename_i S' hr
    have hw : WR (fun _ => none) ⟨.e, 0⟩ w := ⟨fun i j b m n A B h => (by rw [Tr.at_e] at h; cases h), fun i _ => ⟨rfl, Tr.at_e i⟩, by decide, fun i b n h => (by cases h), fun i B h => (by rw [Tr.at_e] at h; cases h)⟩
    have hc := (run_sound (K := 0) mixedP extM_ok 300 4 [] ⟨.e, 0⟩ (.bool true) S' hr (fun _ => none) [] w (by simp [VRL]) hw (Nat.le_refl _)).2
    refine hc.mono ?_
    rintro e w' ⟨x, σ, rfl, hx, _, _, hf⟩
    simp only [VR] at hx
    subst hx
    exact ⟨rfl, hf.os, hf.tape, hf.output, hf.size, fun k hk => hf.block k hk fun i n A _ hA => (by rw [Tr.at_e] at hA; cases hA)⟩
  · cases h

end Go.Proofs.YtcgbdkjelbgcfaaGreatDoor
