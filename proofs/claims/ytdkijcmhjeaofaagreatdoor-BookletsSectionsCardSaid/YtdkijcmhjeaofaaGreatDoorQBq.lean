/- Joined texts. The contract of booklets.Check at the bindings of B.Of: they are valid. · The contract of booklets.Nested at the bindings of B.Of. · slices.Values at [][2]int: the iterator's contract, for every loop body that keeps what lay below n0. · slices.Clone, Clip, ContainsFunc at [][2]int, the last one with the closure of booklets.Sections. · slices.SortFunc at [][2]int with the comparison of booklets.Sections, for a row of the call's own. · The contract of booklets.Sections at the bindings of B.Of: the sections, in order, in a slice of the call's own. · Partners in plain Lean: the array 'other' of the law BookletsSections as its loops fill it, and the flag 'nested'. No program in sight. -/
import Derived.Test.YtdkijcmhjeaofaaGreatDoorQBs
import Derived.RangeFuncNested
import Derived.RangeFuncBound
import Derived.RangeFuncCalls
import Derived.RangeFuncLeaves
import Derived.RangeFuncBox
import Derived.Shelf.Abstract
import Derived.Shelf.RegionOpen
import Derived.WalkKit
import Derived.OwnWalkIn
import Derived.TacticsInMore
import Derived.LoopNIn
import Derived.LoopIn
import Derived.Shelf.SlSortCmp.WholeK
import Derived.Shelf.SlicesG.Cmp
import Derived.Test.YtdkijcmhjeaofaaGreatDoorQEc
namespace Go.Proofs.YtdkijcmhjeaofaaGreatDoor
open Go.RowKit

theorem loo_one (l : List Nat) : ∀ u ∈ looV l, u.oneCell' = true := by
  intro u hu
  obtain ⟨a, _, rfl⟩ := List.mem_map.1 hu
  rfl
theorem iV_one (l : List Int) : ∀ u ∈ iBV l, u.oneCell' = true := by
  intro u hu
  obtain ⟨a, _, rfl⟩ := List.mem_map.1 hu
  rfl
theorem within_any (x y n : Nat) (w : World) : Calls Tryz.prog 17 #[.agg #[.int .i64 (x : Int), .int .i64 (y : Int)], .int .i64 (n : Int)] w (RetBelow (.bool (decide (x < n) && decide (n < y))) w) := by
  have H := (Bx.start w).new #[.int .i64 (x : Int), .int .i64 (y : Int)] 36 rfl
  obtain ⟨R, hR⟩ : ∃ R, (decide (x < n) && decide (n < y)) = R := ⟨_, rfl⟩
  rw [hR]
  have HR := Lib.hid hR
  clear hR
  go_enter Tryz.func17, Tryz.ntmps17
  go_upto_region 1 with fail
  obtain ⟨W, hW⟩ : ∃ zW, zW = w.alloc (.cells #[.int .i64 (x : Int), .int .i64 (y : Int)] 36) := ⟨_, rfl⟩
  rw [← hW] at H ⊢
  clear hW
  obtain ⟨N, hN⟩ : ∃ N, N = w.heap.size := ⟨_, rfl⟩
  rw [← hN] at H ⊢
  have HNN := Lib.hid hN
  clear hN
  clear HNN
  obtain ⟨⟨a0, a1⟩, _⟩ := blk2 (H.blk 0 _ _ _ rfl)
  by_cases h1 : x < n
  · have q1 : (x : Int) < (n : Int) := by omega
    by_cases h2 : n < y
    · have q2 : (n : Int) < (y : Int) := by omega
      have HF : Hid (R = true) := Lib.hid (by rw [← HR.out, decide_eq_true h1, decide_eq_true h2]; rfl)
      go_wp2_with fail
      go_ret
      exact ⟨by rw [HF.out]; rfl, H.below⟩
    · have q2 : ¬ (n : Int) < (y : Int) := by omega
      have HF : Hid (R = false) := Lib.hid (by rw [← HR.out, decide_eq_false h2]; simp)
      go_wp2_with fail
      go_ret
      exact ⟨by rw [HF.out]; rfl, H.below⟩
  · have q1 : ¬ (x : Int) < (n : Int) := by omega
    have HF : Hid (R = false) := Lib.hid (by rw [← HR.out, decide_eq_false h1]; rfl)
    go_wp2_with fail
    go_ret
    exact ⟨by rw [HF.out]; rfl, H.below⟩
set_option maxHeartbeats 4000000 in
set_option maxRecDepth 100000 in
theorem bcheck_any (f : Nat → Option Nat) (L : Nat) (hN : Nc f L) (hL1 : 1 ≤ L) (hL : L ≤ 24) (fA lA : Option Addr) (nf fc nl lc : Nat) (w : World) (hB : BAt w f L fA lA nf fc nl lc) :
    Calls Tryz.prog 8 #[.agg #[.int .i64 L, .slice fA nf fc, .slice lA nl lc]] w (RetBelow (.int .i64 0) w) := by
  have hnf : nf ≤ 24 := by have h1 := hB.hf; have h2 := folios_len f L; omega
  have hnl : nl ≤ 24 := by have h1 := hB.hl; have h2 := loose_len f L; omega
  have HLN : Hid (nl + 2 * nf = L) := Lib.hid (by
    have h1 := (leaf_all hN).2
    rw [leaf_len f L _ (Nat.le_refl _), ← hB.hf, ← hB.hl] at h1
    exact h1)
  have HBA := Lib.hid hB
  have HNC := Lib.hid hN
  clear hB hN
  have H := (Bx.start w).new #[.int .i64 L, .slice fA nf fc, .slice lA nl lc] 28 rfl
  go_enter Tryz.func8, Tryz.ntmps8
  go_upto_region 1 with fail
  obtain ⟨W, hW⟩ : ∃ zW, zW = w.alloc (.cells #[.int .i64 L, .slice fA nf fc, .slice lA nl lc] 28) := ⟨_, rfl⟩
  rw [← hW] at H ⊢
  clear hW
  obtain ⟨N, hN⟩ : ∃ N, N = w.heap.size := ⟨_, rfl⟩
  rw [← hN] at H ⊢
  have HNN := Lib.hid hN
  clear hN
  obtain ⟨⟨a0, a1, a2⟩, _⟩ := blk3 (H.blk 0 _ _ _ rfl)
  have p0 : ¬ (L : Int) < 1 := by omega
  have p1 : ¬ (L : Int) > 256 := by omega
  go_wp2_with fail
  refine (listed_any f L HNC.out hL fA lA nf fc nl lc _ (HBA.out.below H.below)).mono ?_
  rintro e w2 ⟨rfl, hb⟩
  have H2 := H.call hb
  clear a0 a1 a2 hb H p0 p1
  obtain ⟨⟨a0, a1, a2⟩, _⟩ := blk3 (H2.blk 0 _ _ _ rfl)
  go_wp2_with fail
  refine (cloneInt lA nl lc (looV (looseTo f L)) _ HBA.out.al (HBA.out.rl.below H2.below) (loo_one _) (by omega)).mono ?_
  rintro e w3 ⟨v, rfl, hown, hb⟩
  obtain ⟨B, c, rfl, hbc, hcm⟩ := own_form hown
  have H3 := H2.call hb
  obtain ⟨M, hM⟩ : ∃ M, M = w2.heap.size := ⟨_, rfl⟩
  rw [← hM] at hown
  have hM3 : M ≤ w3.heap.size := by rw [hM]; exact hb.size
  have hNM : N < M := by rw [hM]; exact H2.lt 0 rfl
  have hwM : w.heap.size ≤ M := by rw [hM]; exact H2.below.size
  clear a0 a1 a2 hb H2 hM
  have HO := Lib.hid hown
  clear hown
  obtain ⟨⟨a0, a1, a2⟩, _⟩ := blk3 (H3.blk 0 _ _ _ rfl)
  go_wp2_with fail
  have HH3 := Lib.hid H3
  have e0 : looV (looseTo f L) = iBV (leafI f L 0) := by rw [iV_leaf]; simp [folV]
  rw [e0] at HO
  have HLM : Hid (∀ (X1 : Array Value) (t1 : TypeId), ∀ x ∈ [(N, X1, t1)], x.1 < M) := Lib.hid (by
    intro X1 t1 x hx
    simp only [List.mem_cons, List.not_mem_nil, or_false] at hx
    subst hx
    exact hNM)
  have HWM := Lib.hid hwM
  obtain ⟨i0, hi0, hz0, hz1, hz2⟩ := info_parts infoInt
  have HI0 := Lib.hid hi0
  have HZ0 := Lib.hid hz0
  have HZ1 := Lib.hid hz1
  have HZ2 := Lib.hid hz2
  clear hi0 hz0 hz1 hz2 a0 a1 a2 H3 e0
  go_loopw [3, 29] (fun s3 s29 wr => ∃ (j m c : Nat) (B : Option Addr), s29 = .int .i64 j ∧ s3 = .slice B m c ∧ j ≤ nf ∧ Hid (m = nl + 2 * j) ∧ M ≤ wr.heap.size ∧ Hid (wr.ownsRow M 3 1 (.slice B m c) m (iBV (leafI f L j))) ∧ Hid (Bx w [(N, #[.int .i64 L, .slice fA nf fc, .slice lA nl lc], 28)] wr)) (fun _ s29 _ => nf - (intOf s29).toNat)
  case atStart => exact ⟨0, nl, c, B, rfl, rfl, by omega, Lib.hid (by omega), hM3, HO, HH3⟩
  case round =>
    obtain ⟨j, m, c, B, rfl, rfl, hj, HMJ, hMw, HO, HH⟩ := hrel
    clear HH3 hM3
    have H1 := HH.out
    by_cases hlt : j < nf
    · have q0 : (j : Int) < (nf : Int) := by omega
      have hjl : j < (foliosTo f L).length := by have := HBA.out.hf; omega
      obtain ⟨b, o, rfl, hbl, p0, p1⟩ := fol_at (HBA.out.rf.below H1.below) hjl
      obtain ⟨x, hx⟩ : ∃ x, (foliosTo f L)[j].1 = x := ⟨_, rfl⟩
      obtain ⟨y, hy⟩ : ∃ y, (foliosTo f L)[j].2 = y := ⟨_, rfl⟩
      rw [hx] at p0
      rw [hy] at p1
      have HE : Hid (iBV (leafI f L j) ++ [.int .i64 (x : Int), .int .i64 (y : Int)] = iBV (leafI f L (j + 1))) := Lib.hid (by
        rw [iV_leaf, iV_leaf, List.append_assoc, List.take_succ_eq_append_getElem hjl, folV_snoc, hx, hy]
        rfl)
      clear hx hy
      obtain ⟨v', w7, hr, hown', hg⟩ := run_append_rdK (P := Tryz.prog) (wr.alloc (.cells #[.int .i64 x, .int .i64 y] 36)) M 26 26 3 i0 _ 1 8 Tryz.underlying26 HI0.out HZ0.out HZ1.out HZ2.out rfl (by omega) (.slice B m c) m (iBV (leafI f L j)) (HO.out.alloc _) (some ⟨wr.heap.size, 0, none⟩) 2 2 [.int .i64 x, .int .i64 y] (by simp [Value.oneCell']) (rd_new _ 2 1 rfl rfl) (by simp) (by have := HMJ.out; omega) (by omega) (by simp; omega)
      have hb7 : Below M wr w7 := ((Below.refl M wr).alloc hMw _).grown hg (by simp; omega) (fun q hq => (HO.out.lt q hq).1)
      obtain ⟨A', c', rfl, hnc', hcm'⟩ := own_form hown'
      rw [HE.out] at hown'
      have HB7 := Lib.hid (H1.keepM (HLM.out _ _) HWM.out hb7)
      have HM7 : Hid (M ≤ w7.heap.size) := Lib.hid (Nat.le_trans hMw hb7.size)
      have HR := Lib.hid hr
      have HO7 := Lib.hid hown'
      clear hr hown' hg hb7 H1
      as_aux_lemma =>
      go_wp2_with (at_builtin; refine Lib.wpList_append_run _ rfl _ _ _ _ rfl _ _ rfl rfl _ _ HR.out ?_)
      go_wp2_with fail
      go_roundw
      case rel => exact ⟨j + 1, m + 2, c', A', by go_num, rfl, by omega, Lib.hid (by rw [HMJ.out]; omega), HM7.out, HO7, HB7⟩
      case measure => simp [intOf]; omega
    · obtain rfl : j = nf := by omega
      obtain rfl : m = L := by have h1 := HMJ.out; have h2 := HLN.out; omega
      have q0 : ¬ (j : Int) < (j : Int) := by omega
      rw [HBA.out.hf] at HO
      obtain ⟨xs, hxs⟩ : ∃ xs, xs = leafI f m (foliosTo f m).length := ⟨_, rfl⟩
      rw [← hxs] at HO
      have HXN : Hid xs.Nodup := Lib.hid (hxs ▸ (leaf_all HNC.out).1)
      clear hxs hlt HMJ HI0 HZ0 HZ1 HZ2
      go_wp2_with fail
      refine (sortI_any _ HO.out hMw (by omega)).mono ?_
      rintro e w4 ⟨rfl, hown, hb⟩
      have H4 := H1.keepM (HLM.out _ _) HWM.out hb
      have hM4 := Nat.le_trans hMw hb.size
      have HO4 := Lib.hid hown
      obtain ⟨A2, c2, e2, hA2, hc2, hc2m⟩ := own_ok hown
      obtain ⟨rfl, rfl⟩ : B = A2 ∧ c = c2 := by simpa using e2
      clear hb hown H1 HO hMw HH
      go_wp2_with fail
      refine (cloneInt B m c (iBV (srt xs)) _ hA2 (Rd.of_own HO4.out) (iV_one _) (by omega)).mono ?_
      rintro e w5 ⟨v5, rfl, hown5, hb5⟩
      obtain ⟨B5, c5, rfl, hn5, hm5⟩ := own_form hown5
      have H5 := H4.call hb5
      go_wp2_with fail
      refine (compactI_any _ hown5 hb5.size (by omega) (srt_keeps HXN.out)).mono ?_
      rintro e w6 ⟨⟨B6, c6, rfl⟩, hb6⟩
      have H6 := H5.keepM (M := w4.heap.size) (fun x hx => Nat.lt_of_lt_of_le (HLM.out _ _ x hx) hM4) (Nat.le_trans HWM.out hM4) hb6
      clear hb5 hb6 hown5 H5 H4 HO4 hM4 hn5 hm5 hA2 hc2 hc2m q0 hj HXN
      obtain ⟨⟨a0, a1, a2⟩, _⟩ := blk3 (H6.blk 0 _ _ _ rfl)
      have HH6 := Lib.hid H6
      have q1 : ¬ (m : Int) < (m : Int) := by omega
      clear H6
      go_wp2_with fail
      clear a0 a1 a2 q1
      go_loopw [54] (fun s54 wr => ∃ a : Nat, s54 = .int .i64 a ∧ a ≤ j ∧ Hid (Bx w [(N, #[.int .i64 m, .slice fA j fc, .slice lA nl lc], 28)] wr)) (fun s54 _ => j - (intOf s54).toNat)
      case atStart => exact ⟨0, rfl, by omega, HH6⟩
      case round =>
        obtain ⟨a, rfl, haj, HH⟩ := hrel
        clear HH6
        have H1 := HH.out
        by_cases hlt : a < j
        · have q0 : (a : Int) < (j : Int) := by omega
          have hal : a < (foliosTo f m).length := by have := HBA.out.hf; omega
          obtain ⟨b, o, rfl, hbl, p0, p1⟩ := fol_at (HBA.out.rf.below H1.below) hal
          have hmf := mem_folio.1 (List.getElem_mem hal)
          obtain ⟨x, hx⟩ : ∃ x, (foliosTo f m)[a].1 = x := ⟨_, rfl⟩
          obtain ⟨y, hy⟩ : ∃ y, (foliosTo f m)[a].2 = y := ⟨_, rfl⟩
          rw [hx] at p0 hmf
          rw [hy] at p1 hmf
          have HXY := Lib.hid hmf
          obtain ⟨⟨a0, a1, a2⟩, _⟩ := blk3 (H1.blk 0 _ _ _ rfl)
          have H2 := H1.new #[.int .i64 x, .int .i64 y] 36 rfl
          clear hx hy hmf
          go_upto_region 17 with fail
          obtain ⟨W2, hW2⟩ : ∃ zW, zW = wr.alloc (.cells #[.int .i64 x, .int .i64 y] 36) := ⟨_, rfl⟩
          rw [← hW2] at H2 ⊢
          clear hW2
          obtain ⟨Q, hQ⟩ : ∃ Q, Q = wr.heap.size := ⟨_, rfl⟩
          rw [← hQ] at H2 ⊢
          clear hQ a0 a1 a2 p0 p1 H1 q0 hbl
          obtain ⟨⟨a0, a1, a2⟩, _⟩ := blk3 (H2.blk 0 _ _ _ rfl)
          have HH2 := Lib.hid H2
          clear H2
          go_wp2_with fail
          clear a0 a1 a2
          go_loopw [61] (fun s61 wx => ∃ d : Nat, s61 = .int .i64 d ∧ d ≤ j ∧ Hid (Bx w [(N, #[.int .i64 m, .slice (some ⟨b, o, none⟩) j fc, .slice lA nl lc], 28), (Q, #[.int .i64 x, .int .i64 y], 36)] wx)) (fun s61 _ => j - (intOf s61).toNat)
          case atStart => exact ⟨0, rfl, by omega, HH2⟩
          case round =>
            obtain ⟨d, rfl, hdj, HH⟩ := hrel
            clear HH2
            have H1 := HH.out
            by_cases hlt2 : d < j
            · have q0 : (d : Int) < (j : Int) := by omega
              have hdl : d < (foliosTo f m).length := by have := HBA.out.hf; omega
              obtain ⟨b2, o2, eb, hbl, p0, p1⟩ := fol_at (HBA.out.rf.below H1.below) hdl
              obtain ⟨rfl, rfl⟩ : b = b2 ∧ o = o2 := by simpa using eb
              have hmf := mem_folio.1 (List.getElem_mem hdl)
              obtain ⟨u, hu⟩ : ∃ u, (foliosTo f m)[d].1 = u := ⟨_, rfl⟩
              obtain ⟨v, hv⟩ : ∃ v, (foliosTo f m)[d].2 = v := ⟨_, rfl⟩
              rw [hu] at p0 hmf
              rw [hv] at p1 hmf
              have HCR : Hid (x < u → u < y → v < y) := Lib.hid fun h1 h2 => HNC.out.cross x y u v HXY.out.2.1 hmf.2.1 HXY.out.2.2 hmf.2.2 h1 h2
              have H2 := H1.new #[.int .i64 u, .int .i64 v] 36 rfl
              clear hu hv hmf eb
              go_upto_region 20 with fail
              obtain ⟨W3, hW3⟩ : ∃ zW, zW = wr.alloc (.cells #[.int .i64 u, .int .i64 v] 36) := ⟨_, rfl⟩
              rw [← hW3] at H2 ⊢
              clear hW3
              obtain ⟨R, hR⟩ : ∃ R, R = wr.heap.size := ⟨_, rfl⟩
              rw [← hR] at H2 ⊢
              clear hR p0 p1 H1 q0 hbl
              obtain ⟨⟨b0, b1⟩, _⟩ := blk2 (H2.blk 1 _ _ _ rfl)
              obtain ⟨⟨c0, c1⟩, _⟩ := blk2 (H2.blk 2 _ _ _ rfl)
              go_wp2_with fail
              refine (within_any x y u _).mono ?_
              rintro e w8 ⟨rfl, hb⟩
              have H3 := H2.call hb
              clear b0 b1 c0 c1 hb H2
              obtain ⟨⟨b0, b1⟩, _⟩ := blk2 (H3.blk 1 _ _ _ rfl)
              obtain ⟨⟨c0, c1⟩, _⟩ := blk2 (H3.blk 2 _ _ _ rfl)
              obtain ⟨R1, hR1⟩ : ∃ R1, (decide (x < u) && decide (u < y)) = R1 := ⟨_, rfl⟩
              rw [hR1]
              cases R1 with
              | true =>
                have hxu : x < u ∧ u < y := by simpa using hR1
                have q3 : ¬ (v : Int) > (y : Int) := by have := HCR.out hxu.1 hxu.2; omega
                clear hR1 hxu
                go_wp2_with fail
                go_roundw
                case rel => exact ⟨d + 1, by go_num, by omega, Lib.hid (H3.upto 2)⟩
                case measure => simp [intOf]; omega
              | false =>
                clear hR1
                go_wp2_with fail
                go_roundw
                case rel => exact ⟨d + 1, by go_num, by omega, Lib.hid (H3.upto 2)⟩
                case measure => simp [intOf]; omega
            · have q0 : ¬ (d : Int) < (j : Int) := by omega
              have HH1 := Lib.hid (H1.upto 1)
              clear H1 HH
              go_wp2_with fail
              go_roundw
              case rel => exact ⟨a + 1, by go_num, by omega, HH1⟩
              case measure => simp [intOf]; omega
        · have q0 : ¬ (a : Int) < (j : Int) := by omega
          go_wp2_with fail
          go_ret
          exact ⟨rfl, H1.below⟩
end Go.Proofs.YtdkijcmhjeaofaaGreatDoor
namespace Go.Proofs.YtdkijcmhjeaofaaGreatDoor
open Go.RowKit

def nestB (f : Nat → Option Nat) (L : Nat) : Bool := ((foliosTo f L).all fun p => decide (p.1 + p.2 = L - 1)) && (looseTo f L).isEmpty
set_option maxHeartbeats 4000000 in
set_option maxRecDepth 100000 in
theorem nested_any (f : Nat → Option Nat) (L : Nat) (hN : Nc f L) (hL1 : 1 ≤ L) (hL : L ≤ 24) (fA lA : Option Addr) (nf fc nl lc : Nat) (w : World) (hB : BAt w f L fA lA nf fc nl lc) :
    Calls Tryz.prog 7 #[.agg #[.int .i64 L, .slice fA nf fc, .slice lA nl lc]] w (RetBelow (.tuple #[.bool (nestB f L), .int .i64 0]) w) := by
  have hnf : nf ≤ 24 := by have h1 := hB.hf; have h2 := folios_len f L; omega
  have HBA := Lib.hid hB
  have HNC := Lib.hid hN
  clear hB hN
  obtain ⟨R, hR⟩ : ∃ R, nestB f L = R := ⟨_, rfl⟩
  rw [hR]
  have HR := Lib.hid hR
  clear hR
  have H := (Bx.start w).new #[.int .i64 L, .slice fA nf fc, .slice lA nl lc] 28 rfl
  go_enter Tryz.func7, Tryz.ntmps7
  go_upto_region 1 with fail
  obtain ⟨W, hW⟩ : ∃ zW, zW = w.alloc (.cells #[.int .i64 L, .slice fA nf fc, .slice lA nl lc] 28) := ⟨_, rfl⟩
  rw [← hW] at H ⊢
  clear hW
  obtain ⟨N, hN⟩ : ∃ N, N = w.heap.size := ⟨_, rfl⟩
  rw [← hN] at H ⊢
  have HNN := Lib.hid hN
  clear hN
  obtain ⟨⟨a0, a1, a2⟩, _⟩ := blk3 (H.blk 0 _ _ _ rfl)
  go_wp2_with fail
  refine (bcheck_any f L HNC.out hL1 hL fA lA nf fc nl lc _ (HBA.out.below H.below)).mono ?_
  rintro e w2 ⟨rfl, hb⟩
  have H2 := H.call hb
  clear a0 a1 a2 hb H
  obtain ⟨⟨a0, a1, a2⟩, _⟩ := blk3 (H2.blk 0 _ _ _ rfl)
  have HH2 := Lib.hid H2
  clear H2
  go_wp2_with fail
  clear a0 a1 a2
  go_loopw [15] (fun s15 wr => ∃ j : Nat, s15 = .int .i64 j ∧ j ≤ nf ∧ Hid (∀ (k : Nat) (hk : k < (foliosTo f L).length), k < j → (foliosTo f L)[k].1 + (foliosTo f L)[k].2 = L - 1) ∧ Hid (Bx w [(N, #[.int .i64 L, .slice fA nf fc, .slice lA nl lc], 28)] wr)) (fun s15 _ => nf - (intOf s15).toNat)
  case atStart => exact ⟨0, rfl, by omega, Lib.hid fun k _ h => absurd h (by omega), HH2⟩
  case round =>
    obtain ⟨j, rfl, hj, HA, HH⟩ := hrel
    clear HH2
    have H1 := HH.out
    obtain ⟨⟨a0, a1, a2⟩, _⟩ := blk3 (H1.blk 0 _ _ _ rfl)
    by_cases hlt : j < nf
    · have q0 : (j : Int) < (nf : Int) := by omega
      have hjl : j < (foliosTo f L).length := by have := HBA.out.hf; omega
      obtain ⟨b, o, rfl, hbl, p0, p1⟩ := fol_at (HBA.out.rf.below H1.below) hjl
      have hmf := mem_folio.1 (List.getElem_mem hjl)
      obtain ⟨x, hx⟩ : ∃ x, (foliosTo f L)[j].1 = x := ⟨_, rfl⟩
      obtain ⟨y, hy⟩ : ∃ y, (foliosTo f L)[j].2 = y := ⟨_, rfl⟩
      have hyL := (HNC.out.lt _ _ hmf.2.1).2.1
      rw [hx] at p0 hmf
      rw [hy] at p1 hmf hyL
      have hxL := hmf.1
      have HX := Lib.hid (And.intro hx hy)
      have H2 := H1.new #[.int .i64 x, .int .i64 y] 36 rfl
      clear hx hy hmf
      go_upto_region 7 with fail
      obtain ⟨W2, hW2⟩ : ∃ zW, zW = wr.alloc (.cells #[.int .i64 x, .int .i64 y] 36) := ⟨_, rfl⟩
      rw [← hW2] at H2 ⊢
      clear hW2
      obtain ⟨Q, hQ⟩ : ∃ Q, Q = wr.heap.size := ⟨_, rfl⟩
      rw [← hQ] at H2 ⊢
      clear hQ a0 a1 a2 p0 p1 H1 q0 hbl
      obtain ⟨⟨a0, a1, a2⟩, _⟩ := blk3 (H2.blk 0 _ _ _ rfl)
      obtain ⟨⟨c0, c1⟩, _⟩ := blk2 (H2.blk 1 _ _ _ rfl)
      by_cases hs : x + y = L - 1
      · have q1 : (x : Int) + (y : Int) = (L : Int) - 1 := by omega
        have HA2 : Hid (∀ (k : Nat) (hk : k < (foliosTo f L).length), k < j + 1 → (foliosTo f L)[k].1 + (foliosTo f L)[k].2 = L - 1) := Lib.hid fun k hk h => by
          by_cases e : k = j
          · subst e; rw [HX.out.1, HX.out.2]; exact hs
          · exact HA.out k hk (by omega)
        have HH2 := Lib.hid (H2.upto 1)
        clear H2 hs
        go_wp2_with fail
        go_roundw
        case rel => exact ⟨j + 1, by go_num, by omega, HA2, HH2⟩
        case measure => simp [intOf]; omega
      · have q1 : ¬ (x : Int) + (y : Int) = (L : Int) - 1 := by omega
        have HF : Hid (R = false) := Lib.hid (by
          rw [← HR.out]
          unfold nestB
          rw [Bool.and_eq_false_iff]
          refine .inl (List.all_eq_false.2 ⟨(foliosTo f L)[j], List.getElem_mem _, ?_⟩)
          rw [HX.out.1, HX.out.2]
          simpa using hs)
        go_wp2_with fail
        refine bodyPost_ret (v := .tuple #[.bool false, .int .i64 0]) (by simp [results, Tryz.results7, go_sem]) rfl ?_
        exact ⟨by rw [HF.out], H2.below⟩
    · obtain rfl : j = nf := by omega
      have q0 : ¬ (j : Int) < (j : Int) := by omega
      have hall : ((foliosTo f L).all fun p => decide (p.1 + p.2 = L - 1)) = true := by
        rw [List.all_eq_true]
        intro p hp
        obtain ⟨k, hk, rfl⟩ := List.mem_iff_getElem.1 hp
        rw [decide_eq_true_iff]
        exact HA.out k hk (by have := HBA.out.hf; omega)
      have HF : Hid (R = decide (nl = 0)) := Lib.hid (by
        rw [← HR.out]
        unfold nestB
        rw [hall, Bool.true_and, HBA.out.hl]
        cases looseTo f L <;> simp)
      clear hall
      by_cases h0 : nl = 0
      · have q1 : (nl : Int) = 0 := by omega
        have HF2 : Hid (R = true) := Lib.hid (by rw [HF.out, decide_eq_true h0])
        go_wp2_with fail
        refine bodyPost_ret (v := .tuple #[.bool true, .int .i64 0]) (by simp [results, Tryz.results7, go_sem]) rfl ?_
        exact ⟨by rw [HF2.out], H1.below⟩
      · have q1 : ¬ (nl : Int) = 0 := by omega
        have HF2 : Hid (R = false) := Lib.hid (by rw [HF.out, decide_eq_false h0])
        go_wp2_with fail
        refine bodyPost_ret (v := .tuple #[.bool false, .int .i64 0]) (by simp [results, Tryz.results7, go_sem, h0]) rfl ?_
        exact ⟨by rw [HF2.out], H1.below⟩
end Go.Proofs.YtdkijcmhjeaofaaGreatDoor
namespace Go.Proofs.YtdkijcmhjeaofaaGreatDoor
open Go.RowKit Go.Shelf
attribute [local go_sem] Oper.semAt_some

/-- A pair as an element. -/
def pE (x : Nat × Nat) : Array Value := #[.agg #[.int .i64 (x.1 : Int), .int .i64 (x.2 : Int)]]
set_option maxRecDepth 100000 in
set_option maxHeartbeats 2000000 in
theorem values2_in (F : Fence) (n : Nat) (hf : F.fn 39) (hro : F.round = none) (hn : 1 ≤ n) (l Bs n₀ cap : Nat) (A : Option Addr) (zs : List (Nat × Nat)) (hlen : zs.length ≤ 1000) (J Jx : List (Nat × Nat) → World → Prop) (W : World)
    (hJ : AbidesFrom W.heap.size J)
    (hY : ∀ pre x W1, J pre W1 → pre.length < zs.length → YieldAt F (n - 1) Tryz.prog l (pE x) W1 fun e W' =>
      (e = .returned (.bool true) ∧ J (pre ++ [x]) W' ∧ Below n₀ W1 W') ∨ (e = .returned (.bool false) ∧ Jx (pre ++ [x]) W'))
    (hBs : W.cell? ⟨Bs, 0, none⟩ = some (.slice A zs.length cap)) (hn₀ : n₀ ≤ W.heap.size) (hc : ∀ j (hj : j < zs.length), ∃ b o, A = some ⟨b, o, none⟩ ∧ b < n₀ ∧ W.cell? ⟨b, o + j * 2, none⟩ = some (.int .i64 (zs[j].1 : Int)) ∧ W.cell? ⟨b, o + j * 2 + 1, none⟩ = some (.int .i64 (zs[j].2 : Int))) (h0 : J [] W) :
    CallsIn F n Tryz.prog 39 #[.func (.yield l) #[] #[], .pointer (some ⟨Bs, 0, none⟩)] W fun e W' => (∃ v, e = .returned v) ∧
      ((∃ ys, ys = zs ∧ J ys W') ∨ (∃ pre, pre <+: zs ∧ Jx pre W')) := by
  refine callsIn_of_wp Tryz.func39 rfl hf ?_ hro
  simp only [Tryz.ntmps39, List.size_toArray, List.length_cons, List.length_nil, Nat.reduceAdd, Nat.reduceSub, Array.replicate_succ, Array.replicate_zero, List.push_toArray, List.append_toArray, List.nil_append, List.cons_append]
  gi_wp2
  gi_loopw [7] (fun i wr => ∃ k : Nat, k ≤ zs.length ∧ i = .int .i64 k ∧ J (zs.take k) wr ∧ n₀ ≤ wr.heap.size ∧ Below n₀ W wr)
    (fun i _ => zs.length - (intOf i).toNat)
  case atStart => exact ⟨0, Nat.zero_le _, rfl, h0, hn₀, Below.refl _ _⟩
  case round =>
    obtain ⟨k, hk, rfl, hJs, hnw, hnx⟩ := hrel
    by_cases hlt : k < zs.length
    · obtain ⟨b, o, rfl, hb, c0, c1⟩ := hc k hlt
      have c0 := (hnx.cell (p := ⟨b, o + k * 2, none⟩) hb).trans c0
      have c1 := (hnx.cell (p := ⟨b, o + k * 2 + 1, none⟩) hb).trans c1
      have q0 : (k : Int) < (zs.length : Int) := by omega
      have hJ2 := hJ _ _ _ none hJs (World.grownBy_alloc wr (.cells #[.int .i64 (zs[k].1 : Int), .int .i64 (zs[k].2 : Int)] 36) none) (by intro r e; cases e)
      obtain ⟨fn, tmps, assign, body, hy, hR⟩ := hY _ zs[k] _ hJ2 (by rw [List.length_take]; omega)
      unfold pE at hy
      gi_wp2
      refine hR.mono ?_
      have htk : zs.take k ++ [zs[k]] = zs.take (k + 1) := (List.take_succ_eq_append_getElem hlt).symm
      rintro e W3 (⟨rfl, hJ3, hk3⟩ | ⟨rfl, hJx3⟩)
      · rw [htk] at hJ3
        have hbw : Below n₀ wr W3 := ((Below.refl n₀ wr).alloc hnw _).trans hk3
        gi_wp2
        go_roundw
        case rel => exact ⟨k + 1, by omega, by go_num, hJ3, Nat.le_trans hnw hbw.size, hnx.trans hbw⟩
        case measure => simp [intOf]; omega
      · rw [htk] at hJx3
        gi_wp2
        refine bodyPost_ret (results_none rfl _ _ _) rfl ?_
        exact ⟨⟨_, rfl⟩, .inr ⟨_, List.take_prefix _ _, hJx3⟩⟩
    · obtain rfl : k = zs.length := by omega
      gi_wp2
      go_end0
      exact ⟨⟨_, rfl⟩, .inl ⟨_, List.take_length, hJs⟩⟩
set_option maxHeartbeats 1000000 in
theorem values_any (A : Option Addr) (n c : Nat) (w : World) :
    Calls Tryz.prog 14 #[.slice A n c] w fun e w' => e = .returned (.func (.func 39) #[] #[.pointer (some ⟨w.heap.size, 0, none⟩)]) ∧ w' = w.alloc (.cells #[.slice A n c] 25) := by
  go_enter Tryz.func14, Tryz.ntmps14
  go_wp2_with fail
  go_ret
  exact ⟨rfl, rfl⟩
/-- The value that slices.Values hands back, at a row that lies below n0. -/
theorem values_stops (F : Fence) (n : Nat) (hf : F.fn 39) (hro : F.round = none) (hn : 1 ≤ n) (Bs n₀ cap : Nat) (A : Option Addr) (zs : List (Nat × Nat)) (hlen : zs.length ≤ 1000) (w : World) (hBs : Bs < w.heap.size) (hn₀ : n₀ ≤ w.heap.size)
    (hc : w.cell? ⟨Bs, 0, none⟩ = some (.slice A zs.length cap)) (hI : ∀ j (hj : j < zs.length), ∃ b o, A = some ⟨b, o, none⟩ ∧ b < n₀ ∧ w.cell? ⟨b, o + j * 2, none⟩ = some (.int .i64 (zs[j].1 : Int)) ∧ w.cell? ⟨b, o + j * 2 + 1, none⟩ = some (.int .i64 (zs[j].2 : Int))) :
    SeqStopsK F n Tryz.prog 39 #[.pointer (some ⟨Bs, 0, none⟩)] pE (Below n₀) (fun ys => ys = zs) (fun pre => pre <+: zs) zs.length w := fun l J Jx W hW hJ _ hY h0 =>
  values2_in F n hf hro hn l Bs n₀ cap A zs hlen J Jx W hJ hY ((hW.cell (p := ⟨Bs, 0, none⟩) hBs).trans hc) (Nat.le_trans hn₀ hW.size) (fun j hj => by
    obtain ⟨b, o, rfl, hb, c0, c1⟩ := hI j hj
    exact ⟨b, o, rfl, hb, (hW.cell (p := ⟨b, o + j * 2, none⟩) (by show b < _; omega)).trans c0, (hW.cell (p := ⟨b, o + j * 2 + 1, none⟩) (by show b < _; omega)).trans c1⟩) h0
end Go.Proofs.YtdkijcmhjeaofaaGreatDoor
namespace Go.Proofs.YtdkijcmhjeaofaaGreatDoor
open Go.RowKit

set_option maxHeartbeats 400000 in
theorem clipTwo (A : Option Addr) (n c : Nat) (w : World) (h : n ≤ c) (_hm : c ≤ maxLen) :
    Calls Tryz.prog 21 #[.slice A n c] w (RetBelow (.slice A n n) w) := by
  unfold maxLen at _hm
  go_enter Tryz.func21, Tryz.ntmps21
  go_wp2
  go_ret
  exact ⟨rfl, Below.refl _ _⟩
set_option maxRecDepth 100000 in
set_option maxHeartbeats 1000000 in
theorem cloneTwo (A : Option Addr) (n c : Nat) (xs : List Value) (w : World) (hA : AOk A n c) (h : Rd w A 2 n xs) (h1 : ∀ u ∈ xs, u.oneCell' = true) (hn : n ≤ 1000000) :
    Calls Tryz.prog 13 #[.slice A n c] w (OwnRet 36 2 n xs w) := by
  rcases hA with ⟨rfl, rfl, rfl⟩ | ⟨b, o, rfl⟩
  · have hx : xs = [] := by have := h.1; simpa using this
    subst hx
    clear hn h h1
    have heq := run_eql_slice_nil none 0 0 Tryz.underlying25
    go_enter Tryz.func13, Tryz.ntmps13
    go_wp2_with fail
    go_ret
    exact ⟨_, rfl, ⟨rfl, .inl ⟨rfl, rfl⟩⟩, Below.refl _ _⟩
  · obtain ⟨i0, hi, hz, hs, hb⟩ := info_parts infoTwo
    have hown : (w.alloc (.cells #[] 36)).ownsRow w.heap.size 36 2 (.slice (some ⟨w.heap.size, 0, none⟩) 0 0) 0 [] := own_none (Nat.le_refl _) (heap_alloc_new w _) (Nat.le_refl _) (by simp [maxLen]) rfl
    obtain ⟨v', w', hr, h2, h3⟩ := run_append_rdK (P := Tryz.prog) (w.alloc (.cells #[] 36)) w.heap.size 25 25 36 i0 _ 2 16 Tryz.underlying25 hi hz hs hb rfl (by decide) _ 0 [] hown (some ⟨b, o, none⟩) n c xs h1 (h.alloc _) (fun h => by cases h) (by omega) (by decide) (by simp)
    rw [Nat.zero_add, List.nil_append] at h2
    have hbw : Below w.heap.size w w' := ((Below.refl _ _).alloc (Nat.le_refl _) _).grown h3 (by simp) (fun k hk => by simp [Value.ownBlock] at hk; omega)
    clear hown h3 hi hz hs hb h1 h hn
    have heq := run_eql_slice_nil (some ⟨b, o, none⟩) n c Tryz.underlying25
    go_enter Tryz.func13, Tryz.ntmps13
    go_wp2_with (at_builtin; refine Lib.wpList_append_run _ rfl _ _ _ _ rfl _ _ rfl rfl _ _ hr ?_)
    go_ret
    exact ⟨v', rfl, h2, hbw⟩
set_option maxHeartbeats 1000000 in
theorem secOne_any (x y a b P : Nat) (w : World) (hP : w.cell? ⟨P, 0, none⟩ = some (.int .i64 (a : Int))) (hP1 : w.cell? ⟨P, 1, none⟩ = some (.int .i64 (b : Int))) :
    Calls Tryz.prog 16 #[.agg #[.int .i64 (x : Int), .int .i64 (y : Int)], .pointer (some ⟨P, 0, none⟩)] w (RetBelow (.bool (decide (x < a) && decide (a < y))) w) := by
  have H := (Bx.start w).new #[.int .i64 (x : Int), .int .i64 (y : Int)] 36 rfl
  go_enter Tryz.func16, Tryz.ntmps16
  go_upto_region 1 with fail
  have p0 := below_cell H.below hP
  have p1 := below_cell H.below hP1
  obtain ⟨W, hW⟩ : ∃ zW, zW = w.alloc (.cells #[.int .i64 (x : Int), .int .i64 (y : Int)] 36) := ⟨_, rfl⟩
  rw [← hW] at H p0 p1 ⊢
  clear hW
  obtain ⟨N, hN⟩ : ∃ N, N = w.heap.size := ⟨_, rfl⟩
  rw [← hN] at H ⊢
  have HNN := Lib.hid hN
  clear hN
  clear HNN hP hP1
  obtain ⟨⟨a0, a1⟩, _⟩ := blk2 (H.blk 0 _ _ _ rfl)
  go_wp2_with fail
  refine (within_any x y a _).mono ?_
  rintro e w2 ⟨rfl, hb⟩
  go_wp2_with fail
  go_ret
  exact ⟨rfl, (H.call hb).below⟩
set_option maxHeartbeats 1000000 in
theorem secIx_any (A : Option Addr) (l : List (Nat × Nat)) (n c a b P : Nat) (w : World) (hn : n = l.length) (h : Rd w A 2 n (folV l)) (hl : n ≤ 1000) (hP : w.cell? ⟨P, 0, none⟩ = some (.int .i64 (a : Int))) (hP1 : w.cell? ⟨P, 1, none⟩ = some (.int .i64 (b : Int))) :
    Calls Tryz.prog 40 #[.slice A n c, .func (.func 16) #[] #[.pointer (some ⟨P, 0, none⟩)]] w fun e w' => (∃ r : Int, e = .returned (.int .i64 r) ∧ (inF l a = decide (0 ≤ r))) ∧ Below w.heap.size w w' := by
  have HRD := Lib.hid h
  have HN := Lib.hid hn
  clear h hn
  go_enter Tryz.func40, Tryz.ntmps40
  go_wp2_with fail
  go_loopw [5, 8] (fun _ i wr => ∃ k : Nat, k ≤ n ∧ i = .int .i64 k ∧ Below w.heap.size w wr ∧ Hid (∀ j (hj : j < l.length), j < k → ¬ (l[j].1 < a ∧ a < l[j].2))) (fun _ i _ => n - (intOf i).toNat)
  case atStart => exact ⟨0, by omega, rfl, Below.refl _ _, Lib.hid fun j _ hj => absurd hj (by omega)⟩
  case round =>
    obtain ⟨k, hk, rfl, hb, HK⟩ := hrel
    by_cases hlt : k < n
    · have hkl : k < l.length := by have := HN.out; omega
      obtain ⟨bb, o, rfl, hbl, c0, c1⟩ := fol_at (HRD.out.below hb) hkl
      have q1 : (k : Int) < (n : Int) := by omega
      have hPr := below_cell hb hP
      have hPr1 := below_cell hb hP1
      obtain ⟨x, hx⟩ : ∃ x, l[k].1 = x := ⟨_, rfl⟩
      obtain ⟨y, hy⟩ : ∃ y, l[k].2 = y := ⟨_, rfl⟩
      have HXY := Lib.hid (And.intro hx hy)
      rw [hx] at c0
      rw [hy] at c1
      have HC := Lib.hid (secOne_any x y a b P wr hPr hPr1)
      clear hx hy
      go_wp2_with fail
      refine HC.out.mono ?_
      rintro e w2 ⟨rfl, hb2⟩
      have hb3 := hb.trans (hb2.mono hb.size)
      obtain ⟨R1, hR1⟩ : ∃ R1, (decide (x < a) && decide (a < y)) = R1 := ⟨_, rfl⟩
      rw [hR1]
      cases R1 with
      | true =>
        have HA : Hid (inF l a = true) := Lib.hid (by
          unfold inF
          rw [List.any_eq_true]
          exact ⟨l[k], List.getElem_mem _, by rw [HXY.out.1, HXY.out.2]; exact hR1⟩)
        clear hR1
        go_wp2_with fail
        go_ret
        exact ⟨⟨k, rfl, by rw [HA.out]; simp⟩, hb3⟩
      | false =>
        have HKN := Lib.hid (fun j (hj : j < l.length) (h : j < k + 1) => show ¬ (l[j].1 < a ∧ a < l[j].2) by
          by_cases hjk : j = k
          · subst hjk
            rw [HXY.out.1, HXY.out.2]
            simpa using hR1
          · exact HK.out j hj (by omega))
        clear hR1
        go_wp2_with fail
        exact ⟨⟨k + 1, by omega, by go_num, hb3, HKN⟩, by simp [intOf]; omega⟩
    · have q1 : ¬ (k : Int) < (n : Int) := by omega
      have HA : Hid (inF l a = false) := Lib.hid (by
        rw [inF_false]
        intro x hx
        obtain ⟨j, hj, rfl⟩ := List.mem_iff_getElem.1 hx
        exact HK.out j hj (by have := HN.out; omega))
      go_wp2_with fail
      go_ret
      exact ⟨⟨-1, rfl, by rw [HA.out]; rfl⟩, hb⟩
set_option maxHeartbeats 1000000 in
theorem secIn_any (A : Option Addr) (l : List (Nat × Nat)) (n c a b P : Nat) (w : World) (hn : n = l.length) (h : Rd w A 2 n (folV l)) (hl : n ≤ 1000) (hP : w.cell? ⟨P, 0, none⟩ = some (.int .i64 (a : Int))) (hP1 : w.cell? ⟨P, 1, none⟩ = some (.int .i64 (b : Int))) :
    Calls Tryz.prog 15 #[.slice A n c, .func (.func 16) #[] #[.pointer (some ⟨P, 0, none⟩)]] w (RetBelow (.bool (inF l a)) w) := by
  have HC := Lib.hid (secIx_any A l n c a b P w hn h hl hP hP1)
  obtain ⟨R, hR⟩ : ∃ R, inF l a = R := ⟨_, rfl⟩
  rw [hR] at HC ⊢
  clear hn h hR hl hP hP1
  go_enter Tryz.func15, Tryz.ntmps15
  go_wp2_with fail
  refine HC.out.mono ?_
  rintro e w2 ⟨⟨r, rfl, hr⟩, hb⟩
  go_wp2_with fail
  go_ret
  exact ⟨by rw [hr]; rfl, hb⟩
end Go.Proofs.YtdkijcmhjeaofaaGreatDoor
namespace Go.Proofs
open Go.Shelf Go.RowKit
def Tryz.laysSortP_ren : Go.Shelf.Ren := ⟨fun | 6 => 18 | 15 => 42 | 14 => 41 | 28 => 83 | 29 => 84 | 20 => 75 | 21 => 76 | 22 => 77 | 23 => 78 | 24 => 79 | 25 => 80 | 26 => 81 | 27 => 82 | 46 => 133 | 47 => 134 | 48 => 135 | 49 => 136 | 50 => 137 | 57 => 191 | n => n, fun | 22 => 25 | 24 => 36 | 25 => 61 | 3 => 3 | 39 => 104 | 0 => 0 | 53 => 170 | 55 => 22 | 4 => 4 | 46 => 163 | 45 => 162 | 50 => 167 | 5 => 5 | 9 => 9 | 66 => 235 | 70 => 142 | 76 => 303 | 77 => 260 | n => n, fun | n => n⟩
theorem Tryz.laysSortP : Go.Proofs.SlLaysF0.n6 Tryz.prog Tryz.laysSortP_ren := {
  mixed := by kernel_rfl, f6 := ⟨Tryz.f18.name, by decide, Tryz.func18.trans (congrArg some (by kernel_rfl))⟩, f14 := ⟨Tryz.f41.name, by decide, Tryz.func41.trans (congrArg some (by kernel_rfl))⟩, f15 := Tryz.func42.trans (congrArg some (by kernel_rfl)), f20 := ⟨Tryz.f75.name, by decide, Tryz.func75.trans (congrArg some (by kernel_rfl))⟩, f21 := ⟨Tryz.f76.name, by decide, Tryz.func76.trans (congrArg some (by kernel_rfl))⟩, f22 := ⟨Tryz.f77.name, by decide, Tryz.func77.trans (congrArg some (by kernel_rfl))⟩, f23 := ⟨Tryz.f78.name, by decide, Tryz.func78.trans (congrArg some (by kernel_rfl))⟩, f24 := ⟨Tryz.f79.name, by decide, Tryz.func79.trans (congrArg some (by kernel_rfl))⟩, f25 := ⟨Tryz.f80.name, by decide, Tryz.func80.trans (congrArg some (by kernel_rfl))⟩, f26 := ⟨Tryz.f81.name, by decide, Tryz.func81.trans (congrArg some (by kernel_rfl))⟩, f27 := ⟨Tryz.f82.name, by decide, Tryz.func82.trans (congrArg some (by kernel_rfl))⟩, f28 := Tryz.func83.trans (congrArg some (by kernel_rfl)), f29 := Tryz.func84.trans (congrArg some (by kernel_rfl)), f46 := ⟨Tryz.f133.name, by decide, Tryz.func133.trans (congrArg some (by kernel_rfl))⟩, f47 := Tryz.func134.trans (congrArg some (by kernel_rfl)), f48 := Tryz.func135.trans (congrArg some (by kernel_rfl)), f49 := ⟨Tryz.f136.name, by decide, Tryz.func136.trans (congrArg some (by kernel_rfl))⟩, f50 := ⟨Tryz.f137.name, by decide, Tryz.func137.trans (congrArg some (by kernel_rfl))⟩, f57 := ⟨Tryz.f191.name, by decide, Tryz.func191.trans (congrArg some (by kernel_rfl))⟩, t0 := Tryz.underlying0, a0 := Tryz.isAgg0, z0 := Tryz.sizeOf0, v0 := Tryz.zeroValue0, t3 := Tryz.underlying3, a3 := Tryz.isAgg3, z3 := Tryz.sizeOf3, v3 := Tryz.zeroValue3, t4 := Tryz.underlying4, a4 := Tryz.isAgg4, z4 := Tryz.sizeOf4, v4 := Tryz.zeroValue4, t5 := Tryz.underlying5, a5 := Tryz.isAgg5, z5 := Tryz.sizeOf5, v5 := Tryz.zeroValue5, t9 := Tryz.underlying9, a9 := Tryz.isAgg9, z9 := Tryz.sizeOf9, v9 := Tryz.zeroValue9, t22 := Tryz.underlying25, a22 := Tryz.isAgg25, z22 := Tryz.sizeOf25, v22 := Tryz.zeroValue25, t25 := Tryz.underlying61, a25 := Tryz.isAgg61, z25 := Tryz.sizeOf61, v25 := Tryz.zeroValue61, t39 := Tryz.underlying104, a39 := Tryz.isAgg104, z39 := Tryz.sizeOf104, v39 := Tryz.zeroValue104, t45 := Tryz.underlying162, a45 := Tryz.isAgg162, z45 := Tryz.sizeOf162, v45 := Tryz.zeroValue162, t46 := Tryz.underlying163, a46 := Tryz.isAgg163, z46 := Tryz.sizeOf163, v46 := Tryz.zeroValue163, t50 := Tryz.underlying167, a50 := Tryz.isAgg167, z50 := Tryz.sizeOf167, v50 := Tryz.zeroValue167, t53 := Tryz.underlying170, a53 := Tryz.isAgg170, z53 := Tryz.sizeOf170, v53 := Tryz.zeroValue170, t55 := Tryz.underlying22, a55 := Tryz.isAgg22, z55 := Tryz.sizeOf22, v55 := Tryz.zeroValue22, t66 := Tryz.underlying235, a66 := Tryz.isAgg235, z66 := Tryz.sizeOf235, v66 := Tryz.zeroValue235, t70 := Tryz.underlying142, a70 := Tryz.isAgg142, z70 := Tryz.sizeOf142, v70 := Tryz.zeroValue142, t76 := Tryz.underlying303, a76 := Tryz.isAgg303, z76 := Tryz.sizeOf303, v76 := Tryz.zeroValue303, t77 := Tryz.underlying260, a77 := Tryz.isAgg260, z77 := Tryz.sizeOf260, v77 := Tryz.zeroValue260 }
def Tryz.laysCmpI_ren : Go.Shelf.Ren := ⟨fun | 5 => 20 | 7 => 43 | n => n, fun | 22 => 3 | 3 => 3 | 4 => 4 | n => n, fun | n => n⟩
theorem Tryz.laysCmpI : Go.Proofs.SlLaysC2.n5 Tryz.prog Tryz.laysCmpI_ren := {
  mixed := by kernel_rfl, f5 := ⟨Tryz.f20.name, by decide, Tryz.func20.trans (congrArg some (by kernel_rfl))⟩, f7 := ⟨Tryz.f43.name, by decide, Tryz.func43.trans (congrArg some (by kernel_rfl))⟩, t3 := Tryz.underlying3, a3 := Tryz.isAgg3, z3 := Tryz.sizeOf3, v3 := Tryz.zeroValue3, t4 := Tryz.underlying4, a4 := Tryz.isAgg4, z4 := Tryz.sizeOf4, v4 := Tryz.zeroValue4, t22 := Tryz.underlying3, a22 := Tryz.isAgg3, z22 := Tryz.sizeOf3, v22 := Tryz.zeroValue3 }
end Go.Proofs
namespace Go.Proofs.YtdkijcmhjeaofaaGreatDoor
open Go.RowKit Go.Sort

def encP (x : Nat × Nat) : List Value := [.int .i64 (x.1 : Int), .int .i64 (x.2 : Int)]
def cfP (x y : Nat × Nat) : Int := Lib.compareInt (x.1 : Int) (y.1 : Int)
theorem ltP (x y : Nat × Nat) : ltOf cfP x y = decide (x.1 < y.1) := by
  unfold ltOf cfP Lib.compareInt
  by_cases h1 : (x.1 : Int) < (y.1 : Int)
  · simp [h1]; omega
  · by_cases h2 : (y.1 : Int) < (x.1 : Int) <;> (simp [h1, h2]; omega)
theorem swoP : SWO (ltOf cfP) where
  irrefl x := by rw [ltP]; simp
  trans x y z h1 h2 := by rw [ltP] at *; simp at *; omega
  ntrans x y z h1 h2 := by rw [ltP] at *; simp at *; omega
theorem fol_get (l : List (Nat × Nat)) : ∀ (j : Nat) (hj : j < l.length), (folV l)[j * 2]? = some (nV l[j].1) ∧ (folV l)[j * 2 + 1]? = some (nV l[j].2) := by
  induction l with
  | nil => intro j hj; exact absurd hj (Nat.not_lt_zero _)
  | cons p r ih =>
    intro j hj
    cases j with
    | zero => exact ⟨rfl, rfl⟩
    | succ j =>
      have := ih j (by simpa using hj)
      rw [show (j + 1) * 2 = j * 2 + 2 by omega]
      exact this
theorem flat_fol (l : List (Nat × Nat)) : flatK encP 2 l.toArray = (folV l).toArray := by
  refine ext_get! (by simp [folV_len]) fun t ht => ?_
  have ht' : t < l.length * 2 := by simpa using ht
  have hj : t / 2 < l.length := by omega
  rw [get_flatK _ _ _ t (by simpa using ht'), getElem!_pos l.toArray (t / 2) (by simpa using hj)]
  have hg := fol_get l (t / 2) hj
  have hl : t < (folV l).toArray.size := by simp [folV_len]; omega
  rw [getElem!_pos _ t hl]
  simp only [List.getElem_toArray]
  have h2 : (folV l)[t]? = some ((folV l)[t]'(by simpa using hl)) := List.getElem?_eq_getElem _
  rcases Nat.mod_two_eq_zero_or_one t with e | e
  · have e1 : t / 2 * 2 = t := by omega
    rw [e1, h2] at hg
    rw [e, Option.some.inj hg.1]
    rfl
  · have e1 : t / 2 * 2 + 1 = t := by omega
    rw [e1, h2] at hg
    rw [e, Option.some.inj hg.2]
    rfl
set_option maxHeartbeats 1000000 in
theorem closure_any (x y : Nat × Nat) (W : World) : Calls Tryz.prog 19 #[.agg #[.int .i64 (x.1 : Int), .int .i64 (x.2 : Int)], .agg #[.int .i64 (y.1 : Int), .int .i64 (y.2 : Int)]] W fun e w' => e = .returned (.int .i64 (cfP x y)) ∧ ∃ q os', w' = grow (W.drewN q) os' := by
  have hcon := fun W' => AnyG.cmp_Compare_int Tryz.laysCmpI (x.1 : Int) (y.1 : Int) W'
  change ∀ W', Calls Tryz.prog 20 _ _ _ at hcon
  unfold cfP
  generalize Lib.compareInt (x.1 : Int) (y.1 : Int) = r at hcon ⊢
  go_enter Tryz.func19, Tryz.ntmps19
  go_wp2_with (go_at_call 20; refine (hcon _).mono ?_; rintro e w' ⟨rfl, rfl⟩)
  go_ret
  exact ⟨rfl, 0, _, by rw [alloc_eq_grow, alloc_eq_grow, grow_grow]; rfl⟩
theorem heap_sortedV {w : World} {g n : Nat} {os : Array Obj} {cur : Array Value} {e : TypeId} {fr : Nat × Nat} (d : Array Value) (hb : w.heap[g]? = some (.cells cur e fr)) :
    (grow (putRow id (Sort.ahead w n) g 0 d) os).heap[g]? = some (.cells (putCells id 0 d cur) e fr) := by
  have hg : g < w.heap.size := (Array.getElem?_eq_some_iff.1 hb).1
  rw [heap_grow_old _ _ (by simpa using hg)]
  simp [putRow, mapBlock, Sort.ahead, Array.getElem?_modify, hb, onCells]
theorem grownBy_sortedV {w : World} {g n : Nat} {os : Array Obj} (d : Array Value) : w.grownBy (grow (putRow id (Sort.ahead w n) g 0 d) os) (some g) := by
  refine ⟨rfl, rfl, rfl, by simp, fun k hk hne => ?_⟩
  rw [heap_grow_old _ _ (by simpa using hk)]
  have : g ≠ k := fun e => hne (by rw [e])
  simp [putRow, mapBlock, Sort.ahead, Array.getElem?_modify, this]
theorem take_putCellsV (cur : Array Value) (ts : List Value) (h : ts.length ≤ cur.size) : (putCells id 0 ts.toArray cur).toList.take ts.length = ts := by
  apply List.ext_getElem?
  intro j
  by_cases hj : j < ts.length
  · rw [List.getElem?_take_of_lt hj, Array.getElem?_toList]
    simp [putCells, hj, show j < cur.size by omega]
  · rw [List.getElem?_take_eq_none (by omega), List.getElem?_eq_none (by omega)]
theorem isAggP (w : World) : (isAgg 36).run Tryz.prog w = .ok true w := by kernel_rfl
theorem sizeP (w : World) : (Go.sizeOf 36).run Tryz.prog w = .ok 2 w := by kernel_rfl
theorem cmpP (blk off size : Nat) (w : World) : CmpLays Tryz.prog 19 #[] encP 2 cfP blk off size w :=
  fun _ _ _ _ x y => closure_any x y _
theorem sortP_any {O m c : Nat} {B : Option Addr} (l : List (Nat × Nat)) (w : World) (h : w.ownsRow O 36 2 (.slice B m c) m (folV l)) (hm : 0 < m) (hm2 : m ≤ 1000) :
    Calls Tryz.prog 18 #[.slice B m c, .func (.func 19) #[] #[]] w fun e w' => e = .returned (.tuple #[]) ∧ ∃ l', l'.Perm l ∧ l'.Pairwise (fun p q => p.1 ≤ q.1) ∧ w'.ownsRow O 36 2 (.slice B m c) m (folV l') ∧ w.grownBy w' (Value.slice B m c).ownBlock := by
  have hl : l.length = m := by have := h.1; rw [folV_len] at this; omega
  rcases h.2 with ⟨h0, h1⟩ | ⟨g, cap, cur, r1, r2, r3, r4, r5, r6, r7⟩
  · omega
  · obtain ⟨rfl, rfl⟩ : B = some ⟨g, 0, none⟩ ∧ c = cap := by simpa using r1
    have hH : HoldsK encP 2 w g 0 l.toArray := by
      unfold HoldsK
      rw [flat_fol]
      intro j hj
      refine ⟨?_, by simp [World.frozen?, r3]⟩
      have hj' : j < (folV l).length := by simpa using hj
      rw [Nat.zero_add, cell_of_row _ _ j cur 36 (0, 0) r3, getElem!_pos _ j hj]
      have h2 : (cur.toList.take (m * 2))[j]? = (folV l)[j]? := by rw [r7]
      rw [List.getElem?_take_of_lt (by rw [folV_len] at hj'; omega), Array.getElem?_toList] at h2
      rw [h2, List.getElem?_eq_getElem hj']
      rfl
    have eg : ∀ args w, (callFunc 19 args).run Tryz.prog w = .ok (.enter 19 args) w := enters_of Tryz.func19 (by kernel_rfl) rfl
    have hcon := AnyQ.slices_SortFunc Tryz.laysSortP 2 isAggP sizeP encP (fun _ => rfl) (fun x v hv => by simp [encP] at hv; rcases hv with rfl | rfl <;> rfl) cfP swoP 19 #[] g 0 c l.toArray w eg (cmpP g 0 _ w) hH (Array.getElem?_eq_some_iff.1 r3).1 (by simp; omega)
    simp only [List.size_toArray, hl] at hcon
    refine hcon.mono ?_
    rintro e w' ⟨rfl, d', n, os, hp, hs, rfl⟩
    obtain ⟨p1, p2, p3⟩ := hp
    have hd : d'.size = m := by rw [p1]; simpa using hl
    have hd' : d'.toList.toArray = d' := by simp
    refine ⟨rfl, d'.toList, ?_, ?_, ?_, ?_⟩
    · have e1 : d'.extract 0 m = d' := by rw [← hd]; simp
      have e2 : l.toArray.extract 0 m = l.toArray := by rw [← hl]; simp
      rw [e1, e2] at p3
      simpa using p3
    · rw [List.pairwise_iff_getElem]
      intro i j hi hj hij
      have hi' : i < d'.size := by simpa using hi
      have hj' : j < d'.size := by simpa using hj
      have := hs i j (Nat.zero_le _) hij (by omega)
      rw [ltP, decide_eq_false_iff_not, getElem!_pos d' i hi', getElem!_pos d' j hj'] at this
      simp only [Array.getElem_toList]
      omega
    · unfold sortWorldK putRowK
      rw [← hd', flat_fol]
      have hlen : (folV d'.toList).length = m * 2 := by rw [folV_len]; simp [hd]
      exact ⟨by simpa using hlen, .inr ⟨g, c, _, rfl, r2, heap_sortedV _ r3, r4, r5, by simp [putCells, r6], by rw [← hlen]; exact take_putCellsV cur _ (by rw [hlen, r6]; exact Nat.mul_le_mul_right _ r4)⟩⟩
    · exact grownBy_sortedV _
end Go.Proofs.YtdkijcmhjeaofaaGreatDoor
namespace Go.Proofs.YtdkijcmhjeaofaaGreatDoor
open Go.RowKit Go.Shelf
attribute [local go_sem] Oper.semAt_some

/-- What the loop collects. -/
def secOf (fl pre : List (Nat × Nat)) : List (Nat × Nat) := pre.filter fun p => !inF fl p.1
theorem secOf_hit {fl pre : List (Nat × Nat)} {x : Nat × Nat} (h : inF fl x.1 = false) : secOf fl (pre ++ [x]) = secOf fl pre ++ [x] := by simp [secOf, h]
theorem secOf_miss {fl pre : List (Nat × Nat)} {x : Nat × Nat} (h : inF fl x.1 = true) : secOf fl (pre ++ [x]) = secOf fl pre := by simp [secOf, h]
theorem keepsFrom_below {B : Nat} {W W' : World} (hb : Below W.heap.size W W') : KeepsFrom B W W' :=
  ⟨hb.size, fun k _ _ hk _ => (hb.block k (Array.getElem?_eq_some_iff.1 hk).1).trans hk⟩
def SecRet (f : Nat → Option Nat) (L : Nat) (w : World) (e : Ending) (w' : World) : Prop := ∃ A m, ∃ l : List (Nat × Nat), e = .returned (.tuple #[.slice A m m, .int .i64 0]) ∧ m = l.length ∧ Rd w' A 2 m (folV l) ∧ l.Perm (secs f L) ∧ l.Pairwise (fun p q => p.1 ≤ q.1) ∧ Below w.heap.size w w'
theorem fol_one (l : List (Nat × Nat)) : ∀ u ∈ folV l, u.oneCell' = true := by
  intro u hu
  obtain ⟨p, _, hp⟩ := List.mem_flatMap.1 hu
  simp only [List.mem_cons, List.not_mem_nil, or_false] at hp
  rcases hp with rfl | rfl <;> rfl
set_option maxHeartbeats 4000000 in
set_option maxRecDepth 100000 in
theorem sections_any (f : Nat → Option Nat) (L : Nat) (hN : Nc f L) (hL1 : 1 ≤ L) (hL : L ≤ 24) (fA lA : Option Addr) (nf fc nl lc : Nat) (w : World) (hB : BAt w f L fA lA nf fc nl lc) :
    Calls Tryz.prog 6 #[.agg #[.int .i64 L, .slice fA nf fc, .slice lA nl lc]] w (SecRet f L w) := by
  have hnf : nf ≤ 24 := by have h1 := hB.hf; have h2 := folios_len f L; omega
  have hnl : nl ≤ 24 := by have h1 := hB.hl; have h2 := loose_len f L; omega
  have HBA := Lib.hid hB
  have HNC := Lib.hid hN
  clear hB hN
  have H := (Bx.start w).new #[.int .i64 L, .slice fA nf fc, .slice lA nl lc] 28 rfl
  refine (callsIn_wide (n := 9)).1 (callsIn_of_wp_marks Tryz.func6 rfl trivial ?_ rfl)
  simp only [Tryz.ntmps6, List.size_toArray, List.length_cons, List.length_nil, Nat.reduceAdd, Nat.reduceSub, Array.replicate_succ, Array.replicate_zero, List.push_toArray, List.append_toArray, List.nil_append, List.cons_append]
  refine wpIn_wide.2 ?_
  go_upto_region 1 with fail
  obtain ⟨W, hW⟩ : ∃ zW, zW = w.alloc (.cells #[.int .i64 L, .slice fA nf fc, .slice lA nl lc] 28) := ⟨_, rfl⟩
  rw [← hW] at H ⊢
  clear hW
  obtain ⟨N, hN⟩ : ∃ N, N = w.heap.size := ⟨_, rfl⟩
  rw [← hN] at H ⊢
  have HNN := Lib.hid hN
  clear hN
  obtain ⟨⟨a0, a1, a2⟩, _⟩ := blk3 (H.blk 0 _ _ _ rfl)
  go_wp2_with fail
  refine (bcheck_any f L HNC.out hL1 hL fA lA nf fc nl lc _ (HBA.out.below H.below)).mono ?_
  rintro e w2 ⟨rfl, hb⟩
  have H2 := H.call hb
  clear a0 a1 a2 hb H
  obtain ⟨⟨a0, a1, a2⟩, _⟩ := blk3 (H2.blk 0 _ _ _ rfl)
  go_wp2_with fail
  refine (cloneTwo fA nf fc (folV (foliosTo f L)) _ HBA.out.af (HBA.out.rf.below H2.below) (fol_one _) (by omega)).mono ?_
  rintro e w3 ⟨v, rfl, hown, hb⟩
  obtain ⟨B0, c9, rfl, hbc, hcm⟩ := own_form hown
  have H3 := H2.call hb
  obtain ⟨M, hM⟩ : ∃ M, M = w2.heap.size := ⟨_, rfl⟩
  rw [← hM] at hown
  have hM3 : M ≤ w3.heap.size := by rw [hM]; exact hb.size
  have hNM : N < M := by rw [hM]; exact H2.lt 0 rfl
  have hwM : w.heap.size ≤ M := by rw [hM]; exact H2.below.size
  clear a0 a1 a2 hb H2 hM
  have HO := Lib.hid hown
  clear hown
  obtain ⟨⟨a0, a1, a2⟩, _⟩ := blk3 (H3.blk 0 _ _ _ rfl)
  go_wp2_with fail
  have HH3 := Lib.hid H3
  have HLM : Hid (∀ (X1 : Array Value) (t1 : TypeId), ∀ x ∈ [(N, X1, t1)], x.1 < M) := Lib.hid (by
    intro X1 t1 x hx
    simp only [List.mem_cons, List.not_mem_nil, or_false] at hx
    subst hx
    exact hNM)
  have HWM := Lib.hid hwM
  obtain ⟨i0, hi0, hz0, hz1, hz2⟩ := info_parts infoTwo
  have HI0 := Lib.hid hi0
  have HZ0 := Lib.hid hz0
  have HZ1 := Lib.hid hz1
  have HZ2 := Lib.hid hz2
  clear hi0 hz0 hz1 hz2 a0 a1 a2 H3
  have HO : Hid (w3.ownsRow M 36 2 (.slice B0 nf c9) nf (folV (foliosTo f L ++ ((looseTo f L).take 0).map fun n => (n, n)))) := Lib.hid (by simpa using HO.out)
  go_loopw [5, 21] (fun s5 s21 wr => ∃ (k m c : Nat) (B : Option Addr), s21 = .int .i64 k ∧ s5 = .slice B m c ∧ k ≤ nl ∧ Hid (m = nf + k) ∧ M ≤ wr.heap.size ∧ Hid (wr.ownsRow M 36 2 (.slice B m c) m (folV (foliosTo f L ++ ((looseTo f L).take k).map fun n => (n, n)))) ∧ Hid (Bx w [(N, #[.int .i64 L, .slice fA nf fc, .slice lA nl lc], 28)] wr)) (fun _ s21 _ => nl - (intOf s21).toNat)
  case atStart => exact ⟨0, nf, c9, B0, rfl, rfl, by omega, Lib.hid (by omega), hM3, HO, HH3⟩
  case round =>
    obtain ⟨k, m, c, B, rfl, rfl, hk, HMK, hMw, HO, HH⟩ := hrel
    clear HH3 hM3
    have H1 := HH.out
    by_cases hlt : k < nl
    · have q0 : (k : Int) < (nl : Int) := by omega
      have hkl : k < (looseTo f L).length := by have := HBA.out.hl; omega
      obtain ⟨b, o, rfl, hbl, p0⟩ := loo_at (HBA.out.rl.below H1.below) hkl
      obtain ⟨x, hx⟩ : ∃ x, (looseTo f L)[k] = x := ⟨_, rfl⟩
      rw [hx] at p0
      have HE : Hid (folV (foliosTo f L ++ ((looseTo f L).take k).map fun n => (n, n)) ++ [.int .i64 (x : Int), .int .i64 (x : Int)] = folV (foliosTo f L ++ ((looseTo f L).take (k + 1)).map fun n => (n, n))) := Lib.hid (by
        rw [List.take_succ_eq_append_getElem hkl, List.map_append, ← List.append_assoc, hx]
        exact (folV_snoc _ (x, x)).symm)
      clear hx
      obtain ⟨v', w7, hr, hown', hg⟩ := run_append_rdK (P := Tryz.prog) (wr.alloc (.cells #[.int .i64 x, .int .i64 x] 36)) M 25 25 36 i0 _ 2 16 Tryz.underlying25 HI0.out HZ0.out HZ1.out HZ2.out rfl (by omega) (.slice B m c) m _ (HO.out.alloc _) (some ⟨wr.heap.size, 0, none⟩) 1 1 [.int .i64 x, .int .i64 x] (by simp [Value.oneCell']) (rd_new _ 1 2 rfl rfl) (by simp) (by have := HMK.out; omega) (by omega) (by simp; omega)
      have hb7 : Below M wr w7 := ((Below.refl M wr).alloc hMw _).grown hg (by simp; omega) (fun q hq => (HO.out.lt q hq).1)
      obtain ⟨A', c', rfl, hnc', hcm'⟩ := own_form hown'
      rw [HE.out] at hown'
      have HB7 := Lib.hid (H1.keepM (HLM.out _ _) HWM.out hb7)
      have HM7 : Hid (M ≤ w7.heap.size) := Lib.hid (Nat.le_trans hMw hb7.size)
      have HR := Lib.hid hr
      have HO7 := Lib.hid hown'
      clear hr hown' hg hb7 H1
      as_aux_lemma =>
      go_wp2_with (at_builtin; refine Lib.wpList_append_run _ rfl _ _ _ _ rfl _ _ rfl rfl _ _ HR.out ?_)
      go_wp2_with fail
      go_roundw
      case rel => exact ⟨k + 1, m + 1, c', A', by go_num, rfl, by omega, Lib.hid (by rw [HMK.out]; omega), HM7.out, HO7, HB7⟩
      case measure => simp [intOf]; omega
    · obtain rfl : k = nl := by omega
      have q0 : ¬ (k : Int) < (k : Int) := by omega
      rw [HBA.out.hl, List.take_length] at HO
      have HO : Hid (wr.ownsRow M 36 2 (.slice B m c) m (folV (allP f L))) := HO
      obtain rfl : m = (allP f L).length := by
        have h1 := HO.out.1
        rw [folV_len] at h1
        omega
      have hm48 : (allP f L).length ≤ 48 := by have := HMK.out; omega
      clear hk hlt q0
      go_upto_region 11 with fail
      obtain ⟨O, hO⟩ : ∃ O, O = wr.heap.size := ⟨_, rfl⟩
      have hMO : M ≤ O := by rw [hO]; exact hMw
      have hNO : N < O := Nat.lt_of_lt_of_le hNM hMO
      have HBO : Hid (∀ b o, 0 < (allP f L).length → B = some ⟨b, o, none⟩ → b < O) := Lib.hid fun b o h0 e => by
        obtain ⟨b', o', e', hb', _⟩ := fol_at (Rd.of_own HO.out) h0
        rw [e] at e'
        obtain ⟨rfl, _⟩ : b = b' ∧ o = o' := by simpa using e'
        omega
      have bO : Boxed (wr.alloc (.cells #[.slice none 0 0] 25)) O 25 (.slice none 0 0) := by rw [hO]; exact Boxed.new wr _ _
      have hU1 : (wr.alloc (.cells #[.slice none 0 0] 25)).heap.size = O + 1 := by rw [hO]; simp
      have hown1 := HO.out.alloc (.cells #[.slice none 0 0] 25)
      have H2 := H1.other (.cells #[.slice none 0 0] 25)
      rw [← hO]
      obtain ⟨U, hU⟩ : ∃ zW, zW = wr.alloc (.cells #[.slice none 0 0] 25) := ⟨_, rfl⟩
      rw [← hU] at bO hU1 hown1 H2 ⊢
      clear hU
      clear hO hMw H1 HH HO
      go_wp2_with fail
      refine (values_any B (allP f L).length c _).mono ?_
      rintro e w8 ⟨rfl, hw8⟩
      rw [hU1]
      have bV : Boxed w8 (O + 1) 25 (.slice B (allP f L).length c) := by rw [hw8, ← hU1]; exact Boxed.new U _ _
      have bO8 : Boxed w8 O 25 (.slice none 0 0) := by rw [hw8]; exact bO.alloc _
      have hs8 : w8.heap.size = O + 2 := by rw [hw8, World.size_alloc, hU1]
      have hown8 : w8.ownsRow M 36 2 (.slice B (allP f L).length c) (allP f L).length (folV (allP f L)) := by rw [hw8]; exact hown1.alloc _
      have H8 := H2.other (.cells #[.slice B (allP f L).length c] 25)
      rw [← hw8] at H8
      clear hw8 bO hU1 hown1 H2
      go_wp2_with fail
      obtain ⟨fl, hfl⟩ : ∃ fl, fl = foliosTo f L := ⟨_, rfl⟩
      have HFL := Lib.hid hfl
      have hzs : ∀ j (hj : j < (allP f L).length), ∃ b o, B = some ⟨b, o, none⟩ ∧ b < O ∧ w8.cell? ⟨b, o + j * 2, none⟩ = some (.int .i64 ((allP f L)[j].1 : Int)) ∧ w8.cell? ⟨b, o + j * 2 + 1, none⟩ = some (.int .i64 ((allP f L)[j].2 : Int)) := by
        intro j hj
        obtain ⟨b, o, e, _, c0, c1⟩ := fol_at (Rd.of_own hown8) hj
        exact ⟨b, o, e, HBO.out b o (by omega) e, c0, c1⟩
      clear hfl
      refine wpIn_wide.1 (wpIn_rangeFunc_ownH (F := Fence.wide) (n := 9) rfl (by decide) (gf := 39) (lb := #[.pointer (some ⟨O + 1, 0, none⟩)]) rfl trivial (enters_of Tryz.func39 (by kernel_rfl) rfl)
        (values_stops Fence.wide (9 - 1) trivial rfl (by decide) (O + 1) O c B (allP f L) (by omega) w8 (by omega) (by omega) bV.cell hzs) belowK_t (belowK_b (by omega)) (Below.refl _ _) (fun _ => rfl)
        (fun pre W => (∃ v, Boxed W O 25 v ∧ W.ownsRow O 36 2 v (secOf fl pre).length (folV (secOf fl pre)) ∧ True) ∧ Below O w8 W)
        (fun _ _ _ => False)
        (OwnFrom.and (Own.from (holdsRow_own O O 25 36 2 (fun pre => (secOf fl pre).length) (fun pre => folV (secOf fl pre)) (fun _ _ => True)) _) (ownFrom_below (by omega) (by omega)))
        (fun _ _ _ _ _ hs _ _ => hs)
        ⟨⟨_, bO8, World.ownsRow_nil _ _ _ _, trivial⟩, Below.refl _ _⟩
        (fun x a' W => ∃ Bx, O + 2 ≤ Bx ∧ W.heap[Bx]? = some (.cells #[.int .i64 (x.1 : Int), .int .i64 (x.2 : Int)] 36 (0, 0)) ∧ a' = { tmps := #[.agg #[.int .i64 L, .slice fA nf fc, .slice lA k lc], .pointer (some ⟨N, 0, none⟩), .slice none 0 0, .int .i64 0, .int .i64 0, .slice B (allP f L).length c, undef, u7, .pointer (some ⟨O, 0, none⟩), .pointer (some ⟨Bx, 0, none⟩), .agg #[.int .i64 L, .slice fA nf fc, .slice lA k lc], .int .i64 0, .int .i64 0, .bool false, undef, .pointer (some ⟨N, 1, none⟩), .slice fA nf fc, .slice B0 nf c9, .pointer (some ⟨N, 2, none⟩), .slice lA k lc, .int .i64 k, .int .i64 k, .bool false, u23, u24, u25, u26, u27, u28, u29, u30, u31, .slice B (allP f L).length c, .func (.func 39) #[] #[.pointer (some ⟨O + 1, 0, none⟩)], .agg #[.int .i64 (x.1 : Int), .int .i64 (x.2 : Int)], undef, undef, undef, undef, undef, undef, undef, undef, undef, undef, undef, undef, undef], defers := [] })
        (fun x a' _ A' B' row hs hg hr => by
          obtain ⟨Bx, h1, h2, h3⟩ := hs
          refine ⟨Bx, h1, (hg.block Bx (Array.getElem?_eq_some_iff.1 h2).1 fun e => ?_).trans h2, h3⟩
          obtain ⟨_, o, ho, hc⟩ := hr Bx e.symm
          rw [h2] at ho
          cases ho; cases hc) ?assign ?body ?done ?stop)
      case assign =>
        rintro l pre x W K hi hK
        obtain ⟨⟨v, hv, hrow, _⟩, hB⟩ := hi
        unfold pE
        gi_wp2
        refine hK _ _ ((KeepsOthers.alloc W _).from _) ((Below.refl O W).alloc (by have := hB.size; omega) _) ⟨⟨v, hv.alloc _, hrow.alloc _, trivial⟩, hB.alloc (by have := hB.size; omega) _⟩ ⟨W.heap.size, by have := hB.size; omega, heap_alloc_new W _, rfl⟩
      case body =>
        rintro l pre x a' W hl ⟨r, hr⟩ ⟨⟨v, hv, hrow, _⟩, hB⟩ ⟨Bx, hBx, hX, rfl⟩ hlt
        have hc := hv.cell
        have hfz := hv.frozen
        have hN0 := (hB.block N hNO).trans (H8.blk 0 _ _ _ rfl)
        obtain ⟨⟨b0, b1, b2⟩, _⟩ := blk3 hN0
        obtain ⟨⟨x0, x1⟩, _⟩ := blk2 hX
        have hbw : Below w.heap.size w W := H8.below.trans (hB.mono (by omega))
        have hsec := secIn_any fA (foliosTo f L) nf fc x.1 x.2 Bx W HBA.out.hf (HBA.out.rf.below hbw) (by omega) x0 x1
        rw [← HFL.out] at hsec
        have HSEC := Lib.hid hsec
        clear hsec
        have hOW : O + 2 ≤ W.heap.size := by have := hB.size; omega
        have hpl : (secOf fl pre).length ≤ pre.length := List.length_filter_le _ _
        gi_wp2
        refine ⟨trivial, (CallsIn.inRound l (callsIn_wide.2 HSEC.out)).mono ?_⟩
        rintro e w9 ⟨rfl, hb9⟩
        have hv9 : Boxed w9 O 25 v := (hb9.block O hv.lt).trans hv
        have hrow9 := own_keep hrow (Nat.le_refl _) hb9
        have hX9 := (hb9.block Bx (Array.getElem?_eq_some_iff.1 hX).1).trans hX
        have hO9 : O ≤ w9.heap.size := by have := hb9.size; omega
        have hbO : Below O W w9 := hb9.mono (by omega)
        have hk9 : KeepsFrom w8.heap.size W w9 := keepsFrom_below hb9
        obtain ⟨⟨y0, y1⟩, _⟩ := blk2 hX9
        have hc9 := hv9.cell
        have hf9 := hv9.frozen
        clear hc hfz b0 b1 b2 x0 x1 hN0
        cases hin : inF fl x.1 with
        | true =>
          gi_wp2
          exact ⟨hk9, hbO, ⟨v, hv9, by rw [secOf_miss hin]; exact hrow9, trivial⟩, hB.trans hbO⟩
        | false =>
          gi_wp2_with (gi_at_builtin; refine wpListIn_append_own _ rfl _ _ 25 rfl O 36 i0 (.agg #[.int .i64 0, .int .i64 0]) 2 16 Tryz.underlying25 HI0.out HZ0.out HZ1.out HZ2.out rfl (by decide) _ _ _ rfl (hrow9.alloc _) ⟨w9.heap.size, 0, none⟩ 1 1 [.int .i64 (x.1 : Int), .int .i64 (x.2 : Int)] rfl rfl (Rd.allK (rd_new _ 1 2 rfl rfl)) (by simp [Value.oneCell']) (by unfold maxLen; omega) (by omega) (by simp; omega) ?_; intro v' w10 hown' hgrow _; obtain ⟨g', cap', rfl⟩ := ownsRow_succ hown'; obtain ⟨hv1, hv2, hr2, hk2, hb2⟩ := hv9.appended (by decide) hrow9 hO9 (Nat.le_refl _) hown' hgrow; have hc1 := hv1.cell; have hf1 := hv1.frozen)
          exact ⟨hk9.trans (hk2.from _), hbO.trans hb2, ⟨_, hv2, by rw [secOf_hit hin, List.length_append, folV_snoc]; exact hr2, trivial⟩, (hB.trans hbO).trans hb2⟩
      case done =>
        rintro D ys W hD rfl ⟨⟨v, hv, hrow, _⟩, hB⟩ hK
        have hsec : secOf fl (allP f L) = secs f L := by unfold secOf secs; rw [HFL.out]
        rw [hsec] at hrow
        have hpos : 0 < (secs f L).length := List.length_pos_of_mem ((mem_secs HNC.out).2 ⟨show (0, oth f 0).1 < L from hL1, top_zero, rfl⟩)
        have hsl : (secs f L).length ≤ 48 := Nat.le_trans (List.length_filter_le _ _) hm48
        obtain ⟨A9, k9, rfl, hk9, hk9m⟩ := own_form hrow
        have hc := hv.cell
        have hfz := hv.frozen
        go_wp2_with fail
        refine (sortP_any (secs f L) _ hrow hpos (by omega)).mono ?_
        rintro e w10 ⟨rfl, l', hperm, hpw, hrow', hg⟩
        have hv10 : Boxed w10 O 25 (.slice A9 (secs f L).length k9) := hv.kept hg (hv.not_row (by decide) hrow)
        have hK10 : w10.heap[D]? = some (.deferred (some [])) := (hg.block D (Array.getElem?_eq_some_iff.1 hK).1 (fun e => by
          rcases hrow.2 with ⟨_, h0⟩ | ⟨g, _, _, r1, _, r3, _⟩
          · omega
          · rw [r1] at e
            simp only [Value.ownBlock, Option.some.injEq] at e
            rw [← e, hK] at r3
            cases r3)).trans hK
        have hb10 : Below O W w10 := below_own hg hrow (by have := hB.size; omega)
        have hc10 := hv10.cell
        clear hc hfz
        go_wp2_with fail
        refine (clipTwo A9 _ k9 _ hk9 hk9m).mono ?_
        rintro e w11 ⟨rfl, hb11⟩
        go_wp2_with fail
        have hK11 := (hb11.block D (Array.getElem?_eq_some_iff.1 hK10).1).trans hK10
        have hrow11 := ownsRow_putObj (own_keep hrow' (Nat.le_refl _) hb11) (.deferred none) hK11 rfl
        have hO10 : O ≤ w10.heap.size := by have h1 := hB.size; have h2 := hb10.size; omega
        have hwO : w.heap.size ≤ O := by omega
        have hfin : Below O w8 (w11.putObj D (.deferred none)) := ((hB.trans hb10).trans (hb11.mono hO10)).trans (belowK_b (n₀ := O) (w := w8) (by omega) w11 D _ _ hD hK11 rfl rfl)
        refine ⟨by simp, .inl ⟨_, _, rfl, run_takeDeferred hK11, ?_⟩⟩
        refine ⟨.tuple #[.slice A9 (secs f L).length (secs f L).length, .int .i64 0], by simp [results, Tryz.results6, go_sem], ?_⟩
        exact ⟨A9, _, l', rfl, hperm.length_eq.symm, Rd.of_own hrow11, hperm, hpw, H8.below.trans (hfin.mono hwO)⟩
      case stop =>
        rintro D c' pre W _ _ h _
        exact h.elim
end Go.Proofs.YtdkijcmhjeaofaaGreatDoor
namespace Go.Proofs.YtdkijcmhjeaofaaGreatDoor

/-- What stands in 'other' when the folios of l are done. -/
def gTo (l : List (Nat × Nat)) : Nat → Nat := l.foldl (fun g p n => if n = p.2 then p.1 else if n = p.1 then p.2 else g n) id
theorem gTo_nil (n : Nat) : gTo [] n = n := rfl
theorem gTo_snoc (l : List (Nat × Nat)) (p : Nat × Nat) (n : Nat) : gTo (l ++ [p]) n = if n = p.2 then p.1 else if n = p.1 then p.2 else gTo l n := by
  unfold gTo
  rw [List.foldl_append]
  rfl
theorem gTo_eq {f : Nat → Option Nat} {L : Nat} (h : Nc f L) : ∀ (l : List (Nat × Nat)), (∀ p ∈ l, f p.1 = some p.2) → ∀ n, gTo l n = match f n with
  | some b => if (n, b) ∈ l ∨ (b, n) ∈ l then b else n
  | none => n := by
  have key : ∀ r : List (Nat × Nat), (∀ p ∈ r.reverse, f p.1 = some p.2) → ∀ n, gTo r.reverse n = match f n with
    | some b => if (n, b) ∈ r.reverse ∨ (b, n) ∈ r.reverse then b else n
    | none => n := by
   intro r
   induction r with
   | nil => intro _ n; rw [List.reverse_nil, gTo_nil]; cases f n <;> simp
   | cons p r ih =>
    rw [List.reverse_cons]
    generalize r.reverse = l at ih ⊢
    intro hm n
    have ih := ih (fun q hq => hm q (List.mem_append_left _ hq)) n
    have hp := hm p (by simp)
    have hs := (h.lt _ _ hp).2.2
    rw [gTo_snoc]
    by_cases e1 : n = p.2
    · subst e1
      rw [if_pos rfl, hs.2]
      simp
    · rw [if_neg e1]
      by_cases e2 : n = p.1
      · subst e2
        rw [if_pos rfl, hp]
        simp
      · rw [if_neg e2, ih]
        cases f n with
        | none => rfl
        | some b =>
          have q1 : (n, b) ≠ p := fun e => e2 (by rw [← e])
          have q2 : (b, n) ≠ p := fun e => e1 (by rw [← e])
          simp [q1, q2]
  intro l
  have := key l.reverse
  rw [List.reverse_reverse] at this
  exact this
theorem gTo_all {f : Nat → Option Nat} {L : Nat} (h : Nc f L) (n : Nat) : gTo (foliosTo f L) n = oth f n := by
  rw [gTo_eq h _ (fun p hp => (mem_folio.1 hp).2.1)]
  unfold oth
  cases e : f n with
  | none => rfl
  | some b =>
    obtain ⟨h1, h2, h3, h4⟩ := h.lt n b e
    have : (n, b) ∈ foliosTo f L ∨ (b, n) ∈ foliosTo f L := by
      rcases Nat.lt_or_ge n b with hl | hl
      · exact .inl (mem_folio.2 ⟨h1, e, hl⟩)
      · exact .inr (mem_folio.2 ⟨h2, h4, by show b < n; omega⟩)
    simp [this]
/-- The cells of 'other', by what stands there. -/
def gC (g : Nat → Nat) (L : Nat) : List Value := (List.range L).map fun j => nV (g j)
theorem gC_len (g : Nat → Nat) (L : Nat) : (gC g L).length = L := by simp [gC]
theorem gC_get {g : Nat → Nat} {L j : Nat} (h : j < L) : (gC g L)[j]? = some (nV (g j)) := by simp [gC, h]
theorem gC_set {g : Nat → Nat} {L i : Nat} (v : Nat) (hi : i < L) : (gC g L).toArray.setIfInBounds i (nV v) = (gC (fun n => if n = i then v else g n) L).toArray := by
  rw [List.setIfInBounds_toArray]
  congr 1
  apply List.ext_getElem?
  intro j
  rw [List.getElem?_set]
  by_cases h : j < L
  · rw [gC_get h, gC_get h, gC_len]
    by_cases e : i = j
    · subst e; rw [if_pos rfl, if_pos hi, if_pos rfl]
    · rw [if_neg e, if_neg (Ne.symm e)]
  · rw [List.getElem?_eq_none (by rw [gC_len]; omega), List.getElem?_eq_none (by rw [gC_len]; omega), gC_len]
    rw [if_neg (by omega)]
theorem gC_congr {g g' : Nat → Nat} {L : Nat} (h : ∀ n, n < L → g n = g' n) : gC g L = gC g' L := by
  apply List.ext_getElem?
  intro j
  by_cases hj : j < L
  · rw [gC_get hj, gC_get hj, h j hj]
  · rw [List.getElem?_eq_none (by rw [gC_len]; omega), List.getElem?_eq_none (by rw [gC_len]; omega)]
/-- The cells when the first i leaves are their own partners, the others 0. -/
def idTo (i : Nat) : Nat → Nat := fun n => if n < i then n else 0
theorem idTo_succ (i L : Nat) (hi : i < L) : (gC (idTo i) L).toArray.setIfInBounds i (nV i) = (gC (idTo (i + 1)) L).toArray := by
  rw [gC_set i hi, gC_congr (g' := idTo (i + 1))]
  intro n _
  unfold idTo
  by_cases e : n = i
  · subst e; rw [if_pos rfl, if_pos (by omega)]
  · rw [if_neg e]
    by_cases h : n < i
    · rw [if_pos h, if_pos (by omega)]
    · rw [if_neg h, if_neg (by omega)]
theorem idTo_all (L : Nat) : gC (idTo L) L = gC (gTo []) L := gC_congr fun n hn => by unfold idTo; rw [if_pos hn, gTo_nil]
theorem gTo_step {l : List (Nat × Nat)} {x y L : Nat} (hx : x < L) (hy : y < L) : ((gC (gTo l) L).toArray.setIfInBounds x (nV y)).setIfInBounds y (nV x) = (gC (gTo (l ++ [(x, y)])) L).toArray := by
  rw [gC_set y hx, gC_set x hy, gC_congr]
  intro n _
  rw [gTo_snoc]
/-- The flag 'nested' when the first i leaves are done. -/
def nestTo (f : Nat → Option Nat) (L i : Nat) : Bool := decide (∀ j, j < i → oth f j = L - 1 - j ∧ oth f j ≠ j)
theorem nestTo_succ (f : Nat → Option Nat) (L i : Nat) : nestTo f L (i + 1) = (nestTo f L i && decide (oth f i = L - 1 - i ∧ oth f i ≠ i)) := by
  unfold nestTo
  rw [Bool.eq_iff_iff, Bool.and_eq_true, decide_eq_true_iff, decide_eq_true_iff, decide_eq_true_iff]
  constructor
  · intro h; exact ⟨fun j hj => h j (by omega), h i (by omega)⟩
  · rintro ⟨h1, h2⟩ j hj
    by_cases e : j = i
    · subst e; exact h2
    · exact h1 j (by omega)
theorem nest_all {f : Nat → Option Nat} {L : Nat} (h : Nc f L) : nestB f L = nestTo f L L := by
  have hi := nested_iff h
  unfold nestB nestTo
  rw [Bool.eq_iff_iff, Bool.and_eq_true, decide_eq_true_iff, ← hi, List.all_eq_true, List.isEmpty_iff]
  simp
end Go.Proofs.YtdkijcmhjeaofaaGreatDoor
