/- The executor at this program: the calls that it knows, and calls that are known by runs on small memories. The two conditions: the tables of quarters and of turns lie in the world. -/
import Derived.Test.YtjdmkgnlakonbaaGreatDoorRk
import Derived.Test.YtjdmkgnlakonbaaGreatDoorFt
namespace Go.Proofs.YtjdmkgnlakonbaaGreatDoor
open Ex Go.RowKit

noncomputable def extK : FuncId → List AV → Option AV := fun _ _ => none
theorem extK_ok : ExtOk Tryz.prog extK := by
  intro g vs v h
  cases h
noncomputable def tabK : Tr Hdl := tabOf scalL
noncomputable def xt0 : FuncId → List AV → St → CRes := xtM 96 xRel (xtOf tabK)
noncomputable def scK : FuncId → List AV → Option AV := scOf extK tabK
noncomputable def runK (K : Nat) (xt : FuncId → List AV → St → CRes) (n : Nat) (g : FuncId) (vs : List AV) (S : St) : CRes := run K Tryz.prog extK xt (fun call => doDrawn K Tryz.prog scK call) n g vs S
/-- What is known of calls in the worlds that W grows into. -/
def Known1 (W : World) (xt : FuncId → List AV → St → CRes) : Prop := ∀ K, CallOk (Kept.zz W K) Tryz.prog xt
theorem xt0_ok {W : World} (hQ : Qf W) (hT : Tn W) : Known1 W xt0 := fun _ => xRel_ok hQ hT (xtOf_ok (scal_ok hQ hT))
noncomputable def goodK (m : MemR) (xt : FuncId → List AV → St → CRes) : Bool := m.good Tryz.prog extK scK xt 1000
theorem memK {W : World} (hQ : Qf W) (hT : Tn W) {m : MemR} {xt xt' : FuncId → List AV → St → CRes} (hx : Known1 W xt) (h : goodK m xt = true) (hx' : Known1 W xt') : Known1 W (memR m xt') :=
  memR_ok mixedP extK_ok (fun _ => scOf_ok extK_ok (scal_ok hQ hT)) hx h hx'
/-- A closed call that gives true. -/
noncomputable def isTrue (xt : FuncId → List AV → St → CRes) (g : FuncId) : Bool := match runK 0 xt 1000 g [] ⟨.e, 0⟩ with
  | .ok (.bool true) _ => true
  | _ => false
theorem isTrue_ok {xt : FuncId → List AV → St → CRes} {g : FuncId} (h : isTrue xt g = true) {w : World} (hQ : Qf w) (hT : Tn w) (hx : Known1 w xt) : Calls Tryz.prog g #[] w fun e w' => e = .returned (.bool true) ∧ Below w.heap.size w w' := by
  unfold isTrue at h
  split at h
  · rename_i S' hr
    have hw : WR (fun _ => none) ⟨.e, 0⟩ w := ⟨fun i j b m n A B h => (by rw [Tr.at_e] at h; cases h), fun i _ => ⟨rfl, Tr.at_e i⟩, by decide, fun i b n h => (by cases h), fun i B h => (by rw [Tr.at_e] at h; cases h)⟩
    have hc := run_sound2 (Z := Kept.zz w 0) mixedP extK_ok (scOf_ok extK_ok (scal_ok hQ hT)) (hx 0) 1000 g [] ⟨.e, 0⟩ (.bool true) S' hr (fun _ => none) [] w (by simp [VRL]) hw (Nat.le_refl _) ⟨fun i b m A _ h => (by rw [Tr.at_e] at h; cases h), Below.refl _ _⟩
    rcases hc with ⟨_, _, hc⟩ | ⟨y, b, m, _, hc, _⟩
    · refine hc.mono ?_
      rintro e w' ⟨x, σ, rfl, hx, _, _, hf⟩
      simp only [VR] at hx
      subst hx
      exact ⟨rfl, hf.os, hf.tape, hf.output, hf.size, fun k hk => hf.block k hk fun i n A _ hA => (by rw [Tr.at_e] at hA; cases hA)⟩
    · cases hc
  · cases h
end Go.Proofs.YtjdmkgnlakonbaaGreatDoor
