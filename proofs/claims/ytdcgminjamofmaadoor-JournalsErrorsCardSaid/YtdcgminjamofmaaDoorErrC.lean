/- The card of JournalsErrors: for every record and every L the law returns true, where the journal's five errors lie as the program's text lays them. -/
import Derived.Test.YtdcgminjamofmaaDoorErrW
import Derived.Lib.SmallJoins
import Derived.Test.YtdcgminjamofmaaDoorShut2
import Derived.Test.YtdcgminjamofmaaDoorCards
namespace Go.Proofs.YtdcgminjamofmaaDoor.errs
open Go.ChangeShapes Go.WideShapes Go.ChangeAt Go.RowKit Go.Deep

theorem cellsRec : Tryd.prog.cellsOf 37 = 4 := by kernel_rfl
theorem readRec : Tryd.prog.readableRec 37 = true := by kernel_rfl
theorem ltRec : 37 < Tryd.prog.types.size := of_decide_eq_true (by kernel_rfl)

set_option maxRecDepth 100000 in
theorem lifted (os : Os) (started : os.Started) (H : Type) (enc : TypeId × Value → H) :
    ReturnsInHanded {} Tryd.checked os 9 .any (fun w args => (Rows.journalsErrorsSpec.pre enc Tryd.prog Tryd.f9 [] false w args ∧ laidMetH Tryd.prog laid5 w) ∧ sizedMet enc Tryd.prog Tryd.f9 (OpenSpec.ofChange Rows.journalsErrorsSpec) false w args)
      (Rows.journalsErrorsSpec.post enc Tryd.prog Tryd.f9 false true false false) := by
  refine returnsInHanded_of_change_and (C := Tryd.checked) (X := fun w _ => laidMetH Tryd.prog laid5 w) (fun _ _ _ hh h => h.of_heap hh) Tryd.own started (by kernel_rfl) Tryd.func9
    (ChangeSpec.witness_shaped (enc := enc) (C := Tryd.checked) (os := os) (X := fun w _ => laidMetH Tryd.prog laid5 w) false (World.doorLaid Tryd.prog 104 os) #[.agg #[.int .i64 0, .int .u8 0, .int .i64 0, .int .i64 0], .slice none 0 0] 8 rfl (World.shaped_of_RefB (by kernel_rfl) (by kernel_rfl)) (by kernel_rfl) (by kernel_rfl) (by kernel_rfl) (door_met os _)) ?_
  intro W base args ds gs before hval0 hW _ _ hL _
  have hval : ∀ (j : Nat) t v, Tryd.f9.params[j]? = some t → args[j]? = some v → Value.okWide Tryd.prog W .any base t v := hval0
  have hW' := hW
  obtain ⟨p, q, hA0, hV, rfl, hfz, hnd⟩ := hW
  have hA : DataW.TrodAll enc Tryd.prog W 0 (fun _ => true) true Tryd.f9.params.toList args.toList ds p := hA0
  rw [Tryd.params9] at hA hval
  obtain ⟨v0, v1, d0, d1, p0, p1, rfl, rfl, rfl, h0, h1⟩ := trodAll_two hA
  obtain ⟨rfl, rfl⟩ := trodVars_none hV
  obtain ⟨x0, x1, x2, x3, y0, y1, y2, y3, m, rfl, hd0, hp0, hy0, hy1, hy2, hy3⟩ := Joins.open_agg4 Tryd.underlying37 (by kernel_rfl) cellsRec (hval 0 37 v0 rfl rfl) h0
  obtain ⟨n0, e0, _, k0⟩ := DataW.trod_int Tryd.underlying3 hy0
  obtain ⟨n1, e1, _, k1⟩ := DataW.trod_int Tryd.underlying35 hy1
  obtain ⟨n2, e2, _, k2⟩ := DataW.trod_int Tryd.underlying3 hy2
  obtain ⟨n3, e3, _, k3⟩ := DataW.trod_int Tryd.underlying3 hy3
  obtain rfl : x0 = .int .i64 n0 := by simpa using e0
  obtain rfl : x1 = .int .u8 n1 := by simpa using e1
  obtain rfl : x2 = .int .i64 n2 := by simpa using e2
  obtain rfl : x3 = .int .i64 n3 := by simpa using e3
  obtain ⟨A, c, l, rfl, hrd, hfit, hlen⟩ := open_L (hval 1 23 v1 rfl rfl) h1
  obtain ⟨s, hS⟩ := sent_of_laid hL
  clear hA0 hval0 e0 e1 e2 e3
  simp only [List.append_nil] at hW'
  have b0 := bounds_i64 k0
  have b1 := bounds_u8 k1
  have b2 := bounds_i64 k2
  have b3 := bounds_i64 k3
  refine (errlaw_any A l _ c ⟨n0, n1, n2, n3⟩ W s hS rfl hrd hfit hlen ⟨b0, b1, b2, b3⟩).mono fun e W' ⟨he, hb⟩ => ?_
  subst he
  have hlt : ∀ y ∈ p0 ++ p1, y.block < W.heap.size := fun y hy => hW'.lt y hy
  refine ⟨_, rfl, law_post hW' (fun _ _ _ => trodAll_mk1 (shut_bool Tryd.underlying4 _)) ?_ (fun _ => rfl) hb⟩
  exact trodAll_mk2 (Below.trod Tryd.laidOut readRec ltRec h0 hb (fun y hy => hlt y (by simp [hy]))) (Below.trod Tryd.laidOut readL ltL h1 hb (fun y hy => hlt y (by simp [hy])))

theorem holds : Rows.JournalsErrorsSaid :=
  OpenClaim.holds_of_wide 9 Tryd.f9 rfl rfl rfl rfl rfl rfl rfl ⟨rfl, rfl, rfl, rfl, rfl⟩ rfl rfl rfl rfl rfl (by kernel_rfl) Tryd.func9 (by kernel_rfl)
    (of_decide_eq_true (by kernel_rfl)) (by unfold Func.isWrapper; first | (rw [if_pos (by decide +kernel)]; kernel_rfl) | (rw [if_neg (by decide +kernel)]; exact ⟨rfl, rfl⟩))
    (fun os started H enc _ => lifted os started H enc)

theorem card : Rows.JournalsErrorsCardSaid :=
  Claim7.holds_tied_plain_at .later [] _ _ _ _ holds (fun _ h => by cases h) (by kernel_rfl) (fun _ h => by cases h) journalsErrors_row_tie rfl ⟨rfl, rfl⟩ (by kernel_rfl) rfl
    (fun f fn hf hfn => by
      obtain rfl : f = 9 := Option.some.inj ((show Tryd.prog.funcNamed "crimp/crimplaw42.JournalsErrors" = some 9 by kernel_rfl).symm.trans hf) |>.symm
      obtain rfl : fn = Tryd.f9 := (Option.some.inj (Tryd.func9.symm.trans hfn)).symm
      exact ⟨by kernel_rfl, fun j t ht => by
        rw [Tryd.params9] at ht
        have hm : t ∈ [37, 23] := by simpa using Array.mem_of_getElem? ht
        have hall : ([37, 23].all fun u => !Tryd.prog.wantsStandIn u) = true := by kernel_rfl
        exact (show Tryd.prog.wantsStandIn t = false by simpa using List.all_eq_true.1 hall t hm)⟩)
    (by kernel_rfl)
#print axioms card
end Go.Proofs.YtdcgminjamofmaaDoor.errs
