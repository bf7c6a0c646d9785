/- BookletsSections: for every binding B the law returns true, where the listed package variables lie as the program's text lays them. -/
import Derived.Test.YtdkijcmhjeaofaaGreatDoorQBm
import Derived.Test.YtdkijcmhjeaofaaGreatDoorQL37
import Derived.Test.YtdkijcmhjeaofaaGreatDoorQOqb
import Derived.Test.YtdkijcmhjeaofaaGreatDoorQBj
import Derived.Test.YtdkijcmhjeaofaaGreatDoorTie
import Derived.Test.YtdkijcmhjeaofaaGreatDoorCards
import Derived.Lib.SmallJoins
import Derived.Deep.Grids
import Derived.Lay
import Derived.SevenTiedAt
import Derived.OpenShut
import Derived.ProofKit
import Derived.Deep.Slices
import Derived.Deep.Fields
import Derived.Carry
import Derived.LaidLaws
import Derived.LaidMore
import Derived.Stop.Joined
namespace Go.Proofs.YtdkijcmhjeaofaaGreatDoor.bsec
open Go.ChangeShapes Go.WideShapes Go.ChangeAt Go.RowKit Go.Deep

theorem own : ownKnob Tryz.prog.godebug = none := by kernel_rfl
theorem laidOut : laidOutB Tryz.prog = true := by kernel_rfl
abbrev laidM : List (String × DataW Unit) := [("crimp/moves.turns", Rows.laid_crimp_moves_turns), ("crimp/cells.quarters", Rows.laid_crimp_cells_quarters)]
theorem law_post {H : Type} {enc : TypeId × Value → H} {P : Program} {f : Func} {s : ChangeSpec} {W W' : World} {args : Array Value} {v : Value} {ds : List (DataW H)} {before : List MemPlace}
    (hW : DataW.Whole enc P f.params.toList s.vars false W args.toList ds [] before)
    (hres : ∀ (b : Nat) (sp : Nat → Bool) (hd : Bool), DataW.TrodAll enc P W' b sp hd f.resultTypes.toList (v.resultList f.resultTypes.size) (s.fn H (ds ++ [])).results [])
    (hargs : DataW.TrodAll enc P W' 0 (fun b => decide (b < W.heap.size)) true f.params.toList args.toList (s.fn H (ds ++ [])).args before)
    (hvars : ∀ sp : Nat → Bool, DataW.TrodVars enc P W' sp s.vars (s.fn H (ds ++ [])).vars [])
    (hb : Below W.heap.size W W') : s.post enc P f false true false false W args v W' :=
  ⟨ds, [], before, [], before, [], hW, hres _ _ _, hargs, hvars _, World.keptBut_mono (fun p hp => ⟨hp, .inr (by simpa using hp)⟩) (hb.frame (· ∈ before)), fun h => by cases h⟩
theorem cellsS : Tryz.prog.cellsOf 24 = 2 := by kernel_rfl
theorem readS : Tryz.prog.readableRec 24 = true := by kernel_rfl
theorem ltS : 24 < Tryz.prog.types.size := of_decide_eq_true (by kernel_rfl)

set_option maxRecDepth 100000 in
theorem lifted (os : Os) (started : os.Started) (H : Type) (enc : TypeId × Value → H) :
    ReturnsInHanded {} Tryz.checked os 3 .any (fun w args => (Rows.bookletsSectionsSpec.pre enc Tryz.prog Tryz.f3 [] false w args ∧ laidMetH Tryz.prog laidM w) ∧ sizedMet enc Tryz.prog Tryz.f3 (OpenSpec.ofChange Rows.bookletsSectionsSpec) false w args)
      (Rows.bookletsSectionsSpec.post enc Tryz.prog Tryz.f3 false true false false) := by
  refine returnsInHanded_of_change_and (C := Tryz.checked) (X := fun w _ => laidMetH Tryz.prog laidM w) (fun _ _ _ hh h => h.of_heap hh) own started (by kernel_rfl) Tryz.func3
    (ChangeSpec.witness_shaped (enc := enc) (C := Tryz.checked) (os := os) (X := fun w _ => laidMetH Tryz.prog laidM w) false (World.laidAll Tryz.prog os laidM) #[.agg #[.int .u8 0, .int .u64 0]] 8 (World.laidAll_os _ _ _)
      (World.shaped_of_ZipB (by kernel_rfl) (by kernel_rfl)) (by kernel_rfl) (by kernel_rfl) (by kernel_rfl)
      (by rw [MakeChecks.laidMetH_plain _ _ _ (by kernel_rfl)]; exact laidMet_laidAll _ (by kernel_rfl) (by kernel_rfl))) ?_
  intro W base args ds gs before hval0 hW _ _ hL _
  have hval : ∀ (j : Nat) t v, Tryz.f3.params[j]? = some t → args[j]? = some v → Value.okWide Tryz.prog W .any base t v := hval0
  have hW' := hW
  obtain ⟨p, q, hA0, hV, rfl, hfz, hnd⟩ := hW
  have hA : DataW.TrodAll enc Tryz.prog W 0 (fun _ => true) true Tryz.f3.params.toList args.toList ds p := hA0
  rw [Tryz.params3] at hA hval
  obtain ⟨v0, d0, rfl, rfl, h0⟩ := trodAll_one hA
  obtain ⟨rfl, rfl⟩ := trodVars_none hV
  obtain ⟨x0, x1, y0, y1, m, rfl, hd0, hp0, hy0, hy1⟩ := Joins.open_agg2 Tryz.underlying24 (by kernel_rfl) cellsS (hval 0 24 v0 rfl rfl) h0
  obtain ⟨n0, e0, _, k0⟩ := DataW.trod_int Tryz.underlying5 hy0
  obtain ⟨n1, e1, _, k1⟩ := DataW.trod_int Tryz.underlying22 hy1
  obtain rfl : x0 = .int .u8 n0 := by simpa using e0
  obtain rfl : x1 = .int .u64 n1 := by simpa using e1
  obtain ⟨lv, rfl⟩ : ∃ k : Nat, n0 = k := ⟨n0.toNat, by
    have h := k0
    have hm : IntKind.u8.min = 0 := rfl
    simp [Lit.wf] at h
    omega⟩
  obtain ⟨bits, rfl⟩ : ∃ k : Nat, n1 = k := ⟨n1.toNat, by
    have h := k1
    have hm : IntKind.u64.min = 0 := rfl
    simp [Lit.wf] at h
    omega⟩
  have hlv : lv ≤ 255 := by
    have h := k0
    have hm : IntKind.u8.max = 255 := rfl
    simp [Lit.wf] at h
    omega
  rw [MakeChecks.laidMetH_plain _ _ _ (by kernel_rfl)] at hL
  have hQ : Qf W := qf_of (l := laidM) (by simp [laidM]) hL
  have hT : Tn W := tn_of (l := laidM) (by simp [laidM]) hL
  clear hA0 hval0 e0 e1
  simp only [List.append_nil] at hW'
  refine (lawB_any lv bits hlv W (fun w' hb => lives37_ok w' (hQ.below hb) (hT.below hb))).mono fun e W' ⟨he, hb⟩ => ?_
  subst he
  have hlt : ∀ y ∈ p, y.block < W.heap.size := fun y hy => hW'.lt y hy
  refine ⟨_, rfl, law_post hW' (fun _ _ _ => trodAll_mk1 (shut_bool Tryz.underlying4 _)) ?_ (fun _ => rfl) hb⟩
  exact trodAll_mk1 (Below.trod laidOut readS ltS h0 hb hlt)

theorem holds : Rows.BookletsSectionsSaid :=
  OpenClaim.holds_of_wide 3 Tryz.f3 rfl rfl rfl rfl rfl rfl rfl ⟨rfl, rfl, rfl, rfl, rfl⟩ rfl rfl rfl rfl rfl (by kernel_rfl) Tryz.func3 joined
    (of_decide_eq_true (by kernel_rfl)) (by unfold Func.isWrapper; first | (rw [if_pos (by decide +kernel)]; kernel_rfl) | (rw [if_neg (by decide +kernel)]; exact ⟨rfl, rfl⟩))
    (fun os started H enc _ => lifted os started H enc)
end Go.Proofs.YtdkijcmhjeaofaaGreatDoor.bsec
