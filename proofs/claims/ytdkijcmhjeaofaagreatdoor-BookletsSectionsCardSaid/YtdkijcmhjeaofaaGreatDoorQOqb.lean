/- The tables of quarters and of turns out of what the row lists. -/
import Derived.Test.YtdkijcmhjeaofaaGreatDoorQBs
import Derived.Test.YtdkijcmhjeaofaaGreatDoorRows
import Derived.DeepKeys2
import Derived.MapViews
import Derived.OpenShut
import Derived.LaidLaws
import Derived.LaidMore
import Derived.Carry
namespace Go.Proofs.YtdkijcmhjeaofaaGreatDoor
open Go.RowKit

theorem laid_mem {P : Program} {W : World} {n : String} {d : DataW Unit} : ∀ {l : List (String × DataW Unit)} {ps : List MemPlace}, DataW.LaidVars P W l ps → (n, d) ∈ l → ∃ g t cs fuel p, P.globalNamed n = some g ∧ (P.globals[g]?).map (·.type) = some t ∧ W.var? P n = some cs ∧ DataW.trod (fun _ => ()) P W 0 (fun _ => true) false fuel t cs.toList = some (d, p)
  | (n', d') :: r, ps, h, hm => by
    obtain ⟨g, t, cs, fuel, p, q, h1, h2, h3, h4, h5, _⟩ := h
    rcases List.mem_cons.1 hm with e | hm
    · injection e with e1 e2; subst e1; subst e2; exact ⟨g, t, cs, fuel, p, h1, h2, h3, h4⟩
    · exact laid_mem h5 hm
theorem cells_laid {P : Program} {W : World} {n : String} {d : DataW Unit} {l : List (String × DataW Unit)} {g t : Nat} (hg : P.globalNamed n = some g) (ht : (P.globals[g]?).map (·.type) = some t) {m : Nat} (hk : P.keyTypeAt m t = true) (hti : P.tiled m t = true)
    (hl : (n, d) ∈ l) (h : laidMet P l W) (i : Nat) : W.cell? ⟨g, i, none⟩ = (d.flat.map Lit.toCell)[i]? := by
  obtain ⟨ps, hv, _⟩ := h
  obtain ⟨g', t', cs, fuel, p, hg', ht', hcs, htr⟩ := laid_mem hv hl
  obtain rfl := Option.some.inj (hg.symm.trans hg')
  obtain rfl := Option.some.inj (ht.symm.trans ht')
  obtain ⟨h1, _⟩ := keyLits_of_trod m _ hk _ _ _ htr
  have h2 := cells_of_lits m _ hti _ _ _ h1
  rw [World.var?_cell hg hcs i]
  rw [← h2]
  simp
theorem qf_of {W : World} {l : List (String × DataW Unit)} (hl : ("crimp/cells.quarters", Rows.laid_crimp_cells_quarters) ∈ l) (h : laidMet Tryz.prog l W) : Qf W := by
  have hc := cells_laid (m := 9) (t := 330) (show Tryz.prog.globalNamed "crimp/cells.quarters" = some 1 by kernel_rfl) (by kernel_rfl) (by kernel_rfl) (by kernel_rfl) hl h
  have he : (Rows.laid_crimp_cells_quarters : DataW Unit).flat.map Lit.toCell = quartersL := by rfl
  rw [he] at hc
  refine ⟨World.block_lt_of_cell? W _ ((hc 0).trans rfl), fun j v hj => ?_⟩
  rw [Nat.zero_add, hc j, hj]
theorem tn_of {W : World} {l : List (String × DataW Unit)} (hl : ("crimp/moves.turns", Rows.laid_crimp_moves_turns) ∈ l) (h : laidMet Tryz.prog l W) : Tn W := by
  have hc := cells_laid (m := 9) (t := 263) (show Tryz.prog.globalNamed "crimp/moves.turns" = some 0 by kernel_rfl) (by kernel_rfl) (by kernel_rfl) (by kernel_rfl) hl h
  refine ⟨World.block_lt_of_cell? W _ ((hc 0).trans rfl), fun t ht => ?_⟩
  rw [hc, hc, hc, hc]
  match t, ht with
  | 0, _ => exact ⟨rfl, rfl, rfl, rfl⟩
  | 1, _ => exact ⟨rfl, rfl, rfl, rfl⟩
  | 2, _ => exact ⟨rfl, rfl, rfl, rfl⟩
  | 3, _ => exact ⟨rfl, rfl, rfl, rfl⟩
  | 4, _ => exact ⟨rfl, rfl, rfl, rfl⟩
  | 5, _ => exact ⟨rfl, rfl, rfl, rfl⟩
  | 6, _ => exact ⟨rfl, rfl, rfl, rfl⟩
  | 7, _ => exact ⟨rfl, rfl, rfl, rfl⟩
end Go.Proofs.YtdkijcmhjeaofaaGreatDoor
