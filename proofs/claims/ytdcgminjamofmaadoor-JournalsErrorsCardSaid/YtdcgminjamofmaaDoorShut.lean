/- From the walks to the rows: the sentinels out of what the row lists, a slice of R opened, the end of a law. -/
import Derived.Test.YtdcgminjamofmaaDoorOf
import Derived.Test.YtdcgminjamofmaaDoorTie
import Derived.ProofKit
import Derived.Deep.Slices
import Derived.Deep.Fields
import Derived.Carry
import Derived.LaidLaws
namespace Go.Proofs.YtdcgminjamofmaaDoor
open Go.ChangeShapes Go.WideShapes Go.ChangeAt Go.RowKit Go.Deep

theorem Tryd.own : ownKnob Tryd.prog.godebug = none := by kernel_rfl
theorem Tryd.laidOut : laidOutB Tryd.prog = true := by kernel_rfl
theorem star : ("*errors.errorString" : String) = "*" ++ "errors.errorString" := by decide
theorem rowErr (u : TypeId) (h : Tryd.prog.typeName? 3 u = some "*errors.errorString") : u = 125 :=
  typeName_ptr_named (nm := "errors.errorString") (by rw [← star]; kernel_rfl) (by kernel_rfl) (by decide) u (by rw [← star]; exact h)
theorem gn0 : Tryd.prog.globalNamed "crimp/journals.errArg" = some 0 := by kernel_rfl
theorem gn1 : Tryd.prog.globalNamed "crimp/journals.errThere" = some 1 := by kernel_rfl
theorem gn2 : Tryd.prog.globalNamed "crimp/journals.errNone" = some 2 := by kernel_rfl
theorem gn3 : Tryd.prog.globalNamed "crimp/journals.errState" = some 3 := by kernel_rfl
theorem gn4 : Tryd.prog.globalNamed "crimp/journals.errLimit" = some 4 := by kernel_rfl
theorem gt0 : (Tryd.prog.globals[0]?).map (·.type) = some 62 := by kernel_rfl
theorem gt1 : (Tryd.prog.globals[1]?).map (·.type) = some 62 := by kernel_rfl
theorem gt2 : (Tryd.prog.globals[2]?).map (·.type) = some 62 := by kernel_rfl
theorem gt3 : (Tryd.prog.globals[3]?).map (·.type) = some 62 := by kernel_rfl
theorem gt4 : (Tryd.prog.globals[4]?).map (·.type) = some 62 := by kernel_rfl
theorem cellsErr : Tryd.prog.cellsOf 151 = 1 := by kernel_rfl
theorem cellsStr : Tryd.prog.cellsOf 9 = 1 := by kernel_rfl

abbrev laid5 : List (String × DataW Unit) := [("crimp/journals.errArg", Rows.laid_crimp_journals_errArg), ("crimp/journals.errThere", Rows.laid_crimp_journals_errThere), ("crimp/journals.errNone", Rows.laid_crimp_journals_errNone), ("crimp/journals.errState", Rows.laid_crimp_journals_errState), ("crimp/journals.errLimit", Rows.laid_crimp_journals_errLimit)]

set_option maxRecDepth 100000 in
/-- What the row lists gives the sentinels. -/
theorem sent_of_laid {W : World} (hL : laidMetH Tryd.prog laid5 W) : ∃ s, Sent W s := by
  have h : laidMet Tryd.prog laid5 W := hL
  obtain ⟨ps, ⟨g0, t0, cs0, f0, p0, q0, hg0, ht0, hv0, hd0, ⟨g1, t1, cs1, f1, p1, q1, hg1, ht1, hv1, hd1, ⟨g2, t2, cs2, f2, p2, q2, hg2, ht2, hv2, hd2, ⟨g3, t3, cs3, f3, p3, q3, hg3, ht3, hv3, hd3, ⟨g4, t4, cs4, f4, p4, q4, hg4, ht4, hv4, hd4, _, e4⟩, e3⟩, e2⟩, e1⟩, e0⟩, hnd, hrows⟩ := h
  obtain rfl := Option.some.inj (gn0.symm.trans hg0)
  obtain rfl := Option.some.inj (gn1.symm.trans hg1)
  obtain rfl := Option.some.inj (gn2.symm.trans hg2)
  obtain rfl := Option.some.inj (gn3.symm.trans hg3)
  obtain rfl := Option.some.inj (gn4.symm.trans hg4)
  obtain rfl := Option.some.inj (gt0.symm.trans ht0)
  obtain rfl := Option.some.inj (gt1.symm.trans ht1)
  obtain rfl := Option.some.inj (gt2.symm.trans ht2)
  obtain rfl := Option.some.inj (gt3.symm.trans ht3)
  obtain rfl := Option.some.inj (gt4.symm.trans ht4)
  subst e4 e3 e2 e1 e0
  obtain ⟨l0⟩ := cs0
  obtain ⟨l1⟩ := cs1
  obtain ⟨l2⟩ := cs2
  obtain ⟨l3⟩ := cs3
  obtain ⟨l4⟩ := cs4
  have ok0 : ∀ u v, l0 = [.iface u v] → Value.okWide Tryd.prog W .any 0 u v := fun u v e => by
    subst e
    exact (hrows 0 0 (by simp [MemPlace.row])).2 u v (by simpa using World.var?_cell hg0 hv0 0)
  have ok1 : ∀ u v, l1 = [.iface u v] → Value.okWide Tryd.prog W .any 0 u v := fun u v e => by
    subst e
    exact (hrows 1 0 (by simp [MemPlace.row])).2 u v (by simpa using World.var?_cell hg1 hv1 0)
  have ok2 : ∀ u v, l2 = [.iface u v] → Value.okWide Tryd.prog W .any 0 u v := fun u v e => by
    subst e
    exact (hrows 2 0 (by simp [MemPlace.row])).2 u v (by simpa using World.var?_cell hg2 hv2 0)
  have ok3 : ∀ u v, l3 = [.iface u v] → Value.okWide Tryd.prog W .any 0 u v := fun u v e => by
    subst e
    exact (hrows 3 0 (by simp [MemPlace.row])).2 u v (by simpa using World.var?_cell hg3 hv3 0)
  have ok4 : ∀ u v, l4 = [.iface u v] → Value.okWide Tryd.prog W .any 0 u v := fun u v e => by
    subst e
    exact (hrows 4 0 (by simp [MemPlace.row])).2 u v (by simpa using World.var?_cell hg4 hv4 0)
  obtain ⟨a0, s0, rfl, hc0, _, _, rfl⟩ := errorString_of_trod Tryd.underlying62 rowErr Tryd.underlying125 Tryd.underlying151 rfl rfl Tryd.underlying9 cellsErr cellsStr hd0 ok0
  obtain ⟨a1, s1, rfl, hc1, _, _, rfl⟩ := errorString_of_trod Tryd.underlying62 rowErr Tryd.underlying125 Tryd.underlying151 rfl rfl Tryd.underlying9 cellsErr cellsStr hd1 ok1
  obtain ⟨a2, s2, rfl, hc2, _, _, rfl⟩ := errorString_of_trod Tryd.underlying62 rowErr Tryd.underlying125 Tryd.underlying151 rfl rfl Tryd.underlying9 cellsErr cellsStr hd2 ok2
  obtain ⟨a3, s3, rfl, hc3, _, _, rfl⟩ := errorString_of_trod Tryd.underlying62 rowErr Tryd.underlying125 Tryd.underlying151 rfl rfl Tryd.underlying9 cellsErr cellsStr hd3 ok3
  obtain ⟨a4, s4, rfl, hc4, _, _, rfl⟩ := errorString_of_trod Tryd.underlying62 rowErr Tryd.underlying125 Tryd.underlying151 rfl rfl Tryd.underlying9 cellsErr cellsStr hd4 ok4
  have b0 := (hrows a0.block a0.off (by simp [MemPlace.row])).1
  have b1 := (hrows a1.block a1.off (by simp [MemPlace.row])).1
  have b2 := (hrows a2.block a2.off (by simp [MemPlace.row])).1
  have b3 := (hrows a3.block a3.off (by simp [MemPlace.row])).1
  have b4 := (hrows a4.block a4.off (by simp [MemPlace.row])).1
  have n01 : a0 ≠ a1 := by rintro rfl; simp [MemPlace.row] at hnd
  have n02 : a0 ≠ a2 := by rintro rfl; simp [MemPlace.row] at hnd
  have n03 : a0 ≠ a3 := by rintro rfl; simp [MemPlace.row] at hnd
  have n04 : a0 ≠ a4 := by rintro rfl; simp [MemPlace.row] at hnd
  have n12 : a1 ≠ a2 := by rintro rfl; simp [MemPlace.row] at hnd
  have n13 : a1 ≠ a3 := by rintro rfl; simp [MemPlace.row] at hnd
  have n14 : a1 ≠ a4 := by rintro rfl; simp [MemPlace.row] at hnd
  have n23 : a2 ≠ a3 := by rintro rfl; simp [MemPlace.row] at hnd
  have n24 : a2 ≠ a4 := by rintro rfl; simp [MemPlace.row] at hnd
  have n34 : a3 ≠ a4 := by rintro rfl; simp [MemPlace.row] at hnd
  refine ⟨fun i => match i with | 0 => a0 | 1 => a1 | 2 => a2 | 3 => a3 | _ => a4, ⟨by simpa using World.var?_cell hg0 hv0 0, by simpa using World.var?_cell hg1 hv1 0, by simpa using World.var?_cell hg2 hv2 0, by simpa using World.var?_cell hg3 hv3 0, by simpa using World.var?_cell hg4 hv4 0, ?_, ?_⟩⟩
  · intro i hi
    match i, hi with
    | 0, _ => exact b0
    | 1, _ => exact b1
    | 2, _ => exact b2
    | 3, _ => exact b3
    | 4, _ => exact b4
  · intro i j hi hj hne
    match i, j, hi, hj, hne with
    | 0, 1, _, _, _ => exact n01
    | 0, 2, _, _, _ => exact n02
    | 0, 3, _, _, _ => exact n03
    | 0, 4, _, _, _ => exact n04
    | 1, 0, _, _, _ => exact n01.symm
    | 1, 2, _, _, _ => exact n12
    | 1, 3, _, _, _ => exact n13
    | 1, 4, _, _, _ => exact n14
    | 2, 0, _, _, _ => exact n02.symm
    | 2, 1, _, _, _ => exact n12.symm
    | 2, 3, _, _, _ => exact n23
    | 2, 4, _, _, _ => exact n24
    | 3, 0, _, _, _ => exact n03.symm
    | 3, 1, _, _, _ => exact n13.symm
    | 3, 2, _, _, _ => exact n23.symm
    | 3, 4, _, _, _ => exact n34
    | 4, 0, _, _, _ => exact n04.symm
    | 4, 1, _, _, _ => exact n14.symm
    | 4, 2, _, _, _ => exact n24.symm
    | 4, 3, _, _, _ => exact n34.symm
    | 0, 0, _, _, h => exact absurd rfl h
    | 1, 1, _, _, h => exact absurd rfl h
    | 2, 2, _, _, h => exact absurd rfl h
    | 3, 3, _, _, h => exact absurd rfl h
    | 4, 4, _, _, h => exact absurd rfl h
end Go.Proofs.YtdcgminjamofmaaDoor
