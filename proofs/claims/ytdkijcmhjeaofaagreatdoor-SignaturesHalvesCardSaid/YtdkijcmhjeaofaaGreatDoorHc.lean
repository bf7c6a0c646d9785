/- The card of SignaturesHalves: for every sheet and every list the law returns true, where the listed package variables lie as the program's text lays them. -/
import Derived.Test.YtdkijcmhjeaofaaGreatDoorHl
import Derived.Test.YtdkijcmhjeaofaaGreatDoorLs
import Derived.Test.YtdkijcmhjeaofaaGreatDoorOq
import Derived.Test.YtdkijcmhjeaofaaGreatDoorHj
import Derived.Test.YtdkijcmhjeaofaaGreatDoorTie
import Derived.Test.YtdkijcmhjeaofaaGreatDoorCards
import Derived.Lib.SmallJoins
import Derived.Deep.Grids
import Derived.Lay
import Derived.SevenTiedAt
import Derived.OpenShut
import Derived.ProofKit
import Derived.Deep.Slices
import Derived.Deep.Fields
import Derived.Carry
import Derived.LaidLaws
import Derived.LaidMore
import Derived.Stop.Joined
namespace Go.Proofs.YtdkijcmhjeaofaaGreatDoor.halves
open Go.ChangeShapes Go.WideShapes Go.ChangeAt Go.RowKit Go.Deep

theorem own : ownKnob Tryz.prog.godebug = none := by kernel_rfl
theorem laidOut : laidOutB Tryz.prog = true := by kernel_rfl
abbrev laidM : List (String × DataW Unit) := [("math/bits.deBruijn32tab", Rows.laid_math_bits_deBruijn32tab), ("math/bits.deBruijn64tab", Rows.laid_math_bits_deBruijn64tab), ("internal/strconv.uint64pow10", Rows.laid_internal_strconv_uint64pow10), ("crimp/moves.turns", Rows.laid_crimp_moves_turns), ("crimp/cells.quarters", Rows.laid_crimp_cells_quarters)]
theorem law_post {H : Type} {enc : TypeId × Value → H} {P : Program} {f : Func} {s : ChangeSpec} {W W' : World} {args : Array Value} {v : Value} {ds : List (DataW H)} {before : List MemPlace}
    (hW : DataW.Whole enc P f.params.toList s.vars false W args.toList ds [] before)
    (hres : ∀ (b : Nat) (sp : Nat → Bool) (hd : Bool), DataW.TrodAll enc P W' b sp hd f.resultTypes.toList (v.resultList f.resultTypes.size) (s.fn H (ds ++ [])).results [])
    (hargs : DataW.TrodAll enc P W' 0 (fun b => decide (b < W.heap.size)) true f.params.toList args.toList (s.fn H (ds ++ [])).args before)
    (hvars : ∀ sp : Nat → Bool, DataW.TrodVars enc P W' sp s.vars (s.fn H (ds ++ [])).vars [])
    (hb : Below W.heap.size W W') : s.post enc P f false true false false W args v W' :=
  ⟨ds, [], before, [], before, [], hW, hres _ _ _, hargs, hvars _, World.keptBut_mono (fun p hp => ⟨hp, .inr (by simpa using hp)⟩) (hb.frame (· ∈ before)), fun h => by cases h⟩
theorem cellsS : Tryz.prog.cellsOf 40 = 2 := by kernel_rfl
theorem readS : Tryz.prog.readableRec 40 = true := by kernel_rfl
theorem ltS : 40 < Tryz.prog.types.size := of_decide_eq_true (by kernel_rfl)
theorem readB : Tryz.prog.readableRec 41 = true := by kernel_rfl
theorem ltB : 41 < Tryz.prog.types.size := of_decide_eq_true (by kernel_rfl)
theorem uBools : Tryz.prog.underlying 41 = some (.slice 4) := by kernel_rfl
theorem uBool : Tryz.prog.underlying 4 = some .bool := by kernel_rfl
theorem cBool : Tryz.prog.cellsOf 4 = 1 := by kernel_rfl
theorem spot0 {W : World} {a : Addr} {u : Value} (h : W.cell? a = some u) : a.spot = none := by
  unfold World.cell? at h
  split at h
  · cases hs : a.spot with
    | none => rfl
    | some s => simp [hs] at h
  · cases h
theorem add0 (a : Addr) : a.add 0 = a := rfl
theorem addn {a : Addr} (h : a.spot = none) (j : Nat) : a.add j = ⟨a.block, a.off + j, none⟩ := by
  unfold Addr.add
  split
  · rename_i e; subst e; cases a; simp_all
  · rfl
/-- Cells that are read by their index make a slice that reads. -/
theorem rd_of_cells {W : World} {a : Addr} (n : Nat) (f : Nat → Value) (h : ∀ i, i < n → W.cell? (a.add i) = some (f i)) : Rd W (some a) 1 n ((List.range n).map f) := by
  refine ⟨by simp, fun hn => ?_⟩
  have h0 := h 0 hn
  rw [add0] at h0
  have hs := spot0 h0
  refine ⟨a.block, a.off, by cases a; simp_all, World.block_lt_of_cell? W _ h0, fun j u hu => ?_⟩
  have hj : j < n := by have := (List.getElem?_eq_some_iff.1 hu).1; simpa using this
  rw [List.getElem?_map, List.getElem?_range hj] at hu
  simp only [Option.map_some, Option.some.injEq] at hu
  rw [← addn hs, h j hj, hu]
/-- A list of truth values that came in. -/
theorem open_over {H : Type} {enc : TypeId × Value → H} {W : World} {fuel : Nat} {v : Value} {y : DataW H × List MemPlace} (h : DataW.trod enc Tryz.prog W 0 (fun _ => true) true fuel 41 [v] = some y) :
    ∃ A c ov, v = .slice A ov.length c ∧ Rd W A 1 ov.length (boolsV ov) ∧ ov.length ≤ maxLen := by
  rcases open_bools uBools uBool cBool h with ⟨hcs, _⟩ | ⟨a, len, cap, B, hcs, _, hlc, hcm, _, hi⟩
  · obtain rfl : v = .slice none 0 0 := by simpa using hcs
    exact ⟨none, 0, [], rfl, Rd.nil, by simp⟩
  · obtain rfl : v = .slice (some a) len cap := by simpa using hcs
    refine ⟨some a, cap, (List.range len).map B, by simp, ?_, by simp; omega⟩
    have h1 : boolsV ((List.range len).map B) = (List.range len).map fun i => Value.bool (B i) := by simp [boolsV]
    rw [h1, List.length_map, List.length_range]
    exact rd_of_cells len _ fun i hil => hi i (by omega)

set_option maxRecDepth 100000 in
theorem lifted (os : Os) (started : os.Started) (H : Type) (enc : TypeId × Value → H) :
    ReturnsInHanded {} Tryz.checked os 4 .any (fun w args => (Rows.signaturesHalvesSpec.pre enc Tryz.prog Tryz.f4 [] false w args ∧ laidMetH Tryz.prog laidM w) ∧ sizedMet enc Tryz.prog Tryz.f4 (OpenSpec.ofChange Rows.signaturesHalvesSpec) false w args)
      (Rows.signaturesHalvesSpec.post enc Tryz.prog Tryz.f4 false true false false) := by
  refine returnsInHanded_of_change_and (C := Tryz.checked) (X := fun w _ => laidMetH Tryz.prog laidM w) (fun _ _ _ hh h => h.of_heap hh) own started (by kernel_rfl) Tryz.func4
    (ChangeSpec.witness_shaped (enc := enc) (C := Tryz.checked) (os := os) (X := fun w _ => laidMetH Tryz.prog laidM w) false (World.laidAll Tryz.prog os laidM) #[.agg #[.int .i64 0, .int .i64 0], .slice none 0 0] 8 (World.laidAll_os _ _ _)
      (World.shaped_of_ZipB (by kernel_rfl) (by kernel_rfl)) (by kernel_rfl) (by kernel_rfl) (by kernel_rfl)
      (by rw [MakeChecks.laidMetH_plain _ _ _ (by kernel_rfl)]; exact laidMet_laidAll _ (by kernel_rfl) (by kernel_rfl))) ?_
  intro W base args ds gs before hval0 hW _ _ hL _
  have hval : ∀ (j : Nat) t v, Tryz.f4.params[j]? = some t → args[j]? = some v → Value.okWide Tryz.prog W .any base t v := hval0
  have hW' := hW
  obtain ⟨p, q, hA0, hV, rfl, hfz, hnd⟩ := hW
  have hA : DataW.TrodAll enc Tryz.prog W 0 (fun _ => true) true Tryz.f4.params.toList args.toList ds p := hA0
  rw [Tryz.params4] at hA hval
  obtain ⟨v0, v1, d0, d1, p0, p1, rfl, rfl, rfl, h0, h1⟩ := trodAll_two hA
  obtain ⟨rfl, rfl⟩ := trodVars_none hV
  obtain ⟨x0, x1, y0, y1, m, rfl, hd0, hp0, hy0, hy1⟩ := Joins.open_agg2 Tryz.underlying40 (by kernel_rfl) cellsS (hval 0 40 v0 rfl rfl) h0
  obtain ⟨n0, e0, _, k0⟩ := DataW.trod_int Tryz.underlying3 hy0
  obtain ⟨n1, e1, _, k1⟩ := DataW.trod_int Tryz.underlying3 hy1
  obtain rfl : x0 = .int .i64 n0 := by simpa using e0
  obtain rfl : x1 = .int .i64 n1 := by simpa using e1
  obtain ⟨a1, l1, c1, rfl⟩ := okWide_slice uBools (hval 1 41 v1 rfl rfl)
  have h1' := h1
  obtain ⟨fuel1, h1''⟩ := h1'
  obtain ⟨A, c, ov, hv1, hR, hm⟩ := open_over h1''
  obtain ⟨rfl, rfl, rfl⟩ : a1 = A ∧ l1 = ov.length ∧ c1 = c := by simpa using hv1
  clear hv1 h1''
  rw [MakeChecks.laidMetH_plain _ _ _ (by kernel_rfl)] at hL
  have hQ : Qf W := qf_of (l := laidM) (by simp [laidM]) hL
  have hT : Tn W := tn_of (l := laidM) (by simp [laidM]) hL
  clear hA0 hval0 e0 e1
  simp only [List.append_nil] at hW'
  have hP : Pw W := pw_of (l := laidM) (by simp [laidM]) hL
  refine (law6_any n0 n1 _ ov _ _ W (fun w' hb => lives36_ok w' (hQ.below hb) (hT.below hb) (hP.below hb)) rfl hR hm).mono fun e W' ⟨he, hb⟩ => ?_
  subst he
  have hlt : ∀ y ∈ p0 ++ p1, y.block < W.heap.size := fun y hy => hW'.lt y hy
  refine ⟨_, rfl, law_post hW' (fun _ _ _ => trodAll_mk1 (shut_bool Tryz.underlying4 _)) ?_ (fun _ => rfl) hb⟩
  exact trodAll_mk2 (Below.trod laidOut readS ltS h0 hb fun y hy => hlt y (List.mem_append_left _ hy)) (Below.trod laidOut readB ltB h1 hb fun y hy => hlt y (List.mem_append_right _ hy))

theorem holds : Rows.SignaturesHalvesSaid :=
  OpenClaim.holds_of_wide 4 Tryz.f4 rfl rfl rfl rfl rfl rfl rfl ⟨rfl, rfl, rfl, rfl, rfl⟩ rfl rfl rfl rfl rfl (by kernel_rfl) Tryz.func4 joined
    (of_decide_eq_true (by kernel_rfl)) (by unfold Func.isWrapper; first | (rw [if_pos (by decide +kernel)]; kernel_rfl) | (rw [if_neg (by decide +kernel)]; exact ⟨rfl, rfl⟩))
    (fun os started H enc _ => lifted os started H enc)

theorem card : Rows.SignaturesHalvesCardSaid :=
  Claim7.holds_tied_plain_at .later [] _ _ _ _ holds (fun _ h => by cases h) (by kernel_rfl) (fun _ h => by cases h) signaturesHalves_row_tie rfl ⟨rfl, rfl⟩ (by kernel_rfl) rfl
    (fun f fn hf hfn => by
      obtain rfl : f = 4 := Option.some.inj ((show Tryz.prog.funcNamed "crimp/crimplaw36.SignaturesHalves" = some 4 by kernel_rfl).symm.trans hf) |>.symm
      obtain rfl : fn = Tryz.f4 := (Option.some.inj (Tryz.func4.symm.trans hfn)).symm
      exact ⟨by kernel_rfl, fun j t ht => by
        rw [Tryz.params4] at ht
        have hm : t ∈ [40, 41] := by simpa using Array.mem_of_getElem? ht
        have hall : ([40, 41].all fun u => !Tryz.prog.wantsStandIn u) = true := by kernel_rfl
        exact (show Tryz.prog.wantsStandIn t = false by simpa using List.all_eq_true.1 hall t hm)⟩)
    (by kernel_rfl)
#print axioms card
end Go.Proofs.YtdkijcmhjeaofaaGreatDoor.halves
