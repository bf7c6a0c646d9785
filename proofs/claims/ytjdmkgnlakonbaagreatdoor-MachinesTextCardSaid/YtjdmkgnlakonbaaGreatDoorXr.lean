/- The executor at this program: the externs that it knows, and what a closed run proves. -/
import Derived.Test.YtjdmkgnlakonbaaGreatDoorFr
import Derived.Test.YtjdmkgnlakonbaaGreatDoorProg
import Derived.Test.YtjdmkgnlakonbaaGreatDoorChecked
import Derived.Test.YtjdmkgnlakonbaaGreatDoorBx
import Derived.KernelRfl
namespace Go.Proofs.YtjdmkgnlakonbaaGreatDoor
open Ex Go.RowKit

/-- No extern is known. -/
def extZ : FuncId → List AV → Option AV := fun _ _ => none
theorem extZ_ok : ExtOk Tryz.prog extZ := fun _ _ _ h => by cases h
theorem mixedP : Tryz.prog.follows .mixedOrders = true := by kernel_rfl
/-- A run on nothing. -/
noncomputable def run0 (n : Nat) (f : FuncId) (vs : List AV) : CRes := run 0 Tryz.prog extZ xtZ (fun call => doDrawn 0 Tryz.prog extZ call) n f vs ⟨.e, 0⟩
theorem run0_ok {n : Nat} {f : FuncId} {vs : List AV} {v : AV} {S' : St} (h : run0 n f vs = .ok v S') {xs : List Value} (hx : ∀ ρ, VRL ρ vs xs) (w : World) :
    Calls Tryz.prog f xs.toArray w fun e w' => (∃ ρ x, e = .returned x ∧ VR ρ v x) ∧ Below w.heap.size w w' := by
  have hw : WR (fun _ => none) ⟨.e, 0⟩ w := ⟨fun i j b m n A B h => (by rw [Tr.at_e] at h; cases h), fun i _ => ⟨rfl, Tr.at_e i⟩, by decide, fun i b n h => (by cases h), fun i B h => (by rw [Tr.at_e] at h; cases h)⟩
  have hc := run_sound (Z := Kept.zz w 0) mixedP extZ_ok xtZ_ok n f vs ⟨.e, 0⟩ v S' h (fun _ => none) xs w (hx _) hw (Nat.le_refl _) ⟨fun i b m A _ h => (by rw [Tr.at_e] at h; cases h), Below.refl _ _⟩
  rcases hc with ⟨_, _, hc⟩ | ⟨y, b, m, _, hc, _⟩
  · refine hc.mono ?_
    rintro e w' ⟨x, σ, rfl, hx, _, _, hf⟩
    exact ⟨⟨σ, x, rfl, hx⟩, hf.os, hf.tape, hf.output, hf.size, fun k hk => hf.block k hk fun i n A _ hA => (by rw [Tr.at_e] at hA; cases hA)⟩
  · cases hc
end Go.Proofs.YtjdmkgnlakonbaaGreatDoor
