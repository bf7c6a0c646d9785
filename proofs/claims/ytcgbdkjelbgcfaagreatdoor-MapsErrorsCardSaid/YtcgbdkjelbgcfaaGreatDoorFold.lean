/- Contract of Map.folds at a valid map. -/
import Derived.Test.YtcgbdkjelbgcfaaGreatDoorMap4
import Derived.Deep.RegionHeld3
namespace Go.Proofs.YtcgbdkjelbgcfaaGreatDoor
open Go.RowKit

def rtS (R U : List Row) (way i k : Nat) : Int := (rtK R U way i k).getD 0
def upS (R U : List Row) (way i k : Nat) : Int := (upK R U way i k).getD 0
def acr (W H way : Nat) : Nat := if way = 0 then W else H
def alo (W H way : Nat) : Nat := if way = 0 then H else W
/-- A valid map: all creases are there, of the kinds 0, 1, 2. -/
structure VM (W H : Nat) (R U : List Row) : Prop where
  w : 1 ≤ W ∧ W ≤ 16
  h : 1 ≤ H ∧ H ≤ 16
  rt : ∀ way i k, way ≤ 1 → i + 1 < acr W H way → k < alo W H way → rtK R U way i k = some (rtS R U way i k) ∧ 0 ≤ rtS R U way i k ∧ rtS R U way i k ≤ 2
  up : ∀ way i k, way ≤ 1 → i < acr W H way → k + 1 < alo W H way → upK R U way i k = some (upS R U way i k) ∧ 0 ≤ upS R U way i k ∧ upS R U way i k ≤ 2
/-- A part lies in the map. -/
structure InM (W H : Nat) (p : Pt) : Prop where
  x : p.a < p.b ∧ p.b ≤ W
  y : p.c < p.d ∧ p.d ≤ H
theorem InM.way {W H : Nat} {p : Pt} (h : InM W H p) (way : Nat) : p.from' way < p.to way ∧ p.to way ≤ acr W H way ∧ p.low way < p.high way ∧ p.high way ≤ alo W H way := by
  unfold Pt.from' Pt.to Pt.low Pt.high acr alo
  obtain ⟨⟨a1, a2⟩, b1, b2⟩ := h
  by_cases hw : way = 0
  · simp only [hw, if_true]; omega
  · simp only [hw, if_false]; omega
/-- One row of a part agrees with the fold at a line. -/
def rowP (R U : List Row) (p : Pt) (way c k : Nat) : Prop :=
  rtS R U way (c - 1) k = rtS R U way (c - 1) (p.low way) ∧ (∀ i, 1 ≤ i → p.from' way + i + 1 ≤ c → c + i < p.to way → rtS R U way (c - 1 - i) k = opp (rtS R U way (c - 1 + i) k)) ∧
    (k + 1 < p.high way → ∀ j, p.from' way + j + 1 ≤ c → c + j < p.to way → upS R U way (c - 1 - j) k = opp (upS R U way (c + j) k))
def FoldP (R U : List Row) (p : Pt) (way c : Nat) : Prop := ∀ k, p.low way ≤ k → k < p.high way → rowP R U p way c k
def FoldRet (R U : List Row) (p : Pt) (way c : Nat) (w : World) (e : Ending) (w' : World) : Prop :=
  Below w.heap.size w w' ∧ ((FoldP R U p way c ∧ e = .returned (.tuple #[.int .u8 (rtS R U way (c - 1) (p.low way)), .bool (rtS R U way (c - 1) (p.low way) != 0)])) ∨ (¬ FoldP R U p way c ∧ e = .returned (.tuple #[.int .u8 0, .bool false])))

set_option maxHeartbeats 4000000 in
set_option maxRecDepth 100000 in
theorem folds_any (W H : Nat) (RA UA : Option Addr) (R U : List Row) (cr cu : Nat) (p : Pt) (way c : Nat) (w : World) (hm : MapOk w RA UA R U) (hv : VM W H R U) (hp : InM W H p) (hw : way ≤ 1) (hc1 : p.from' way < c) (hc2 : c < p.to way) :
    Calls Tryz.prog 18 #[.agg #[.int .i64 W, .int .i64 H, .slice RA R.length cr, .slice UA U.length cu], p.v, .int .i64 way, .int .i64 c] w (FoldRet R U p way c w) := by
  obtain ⟨hf1, hf2, hf3, hf4⟩ := hp.way way
  have hA16 : acr W H way ≤ 16 := by have := hv.w; have := hv.h; unfold acr; split <;> omega
  have hL16 : alo W H way ≤ 16 := by have := hv.w; have := hv.h; unfold alo; split <;> omega
  obtain ⟨F, hF⟩ : ∃ F, p.from' way = F := ⟨_, rfl⟩
  obtain ⟨T, hT⟩ : ∃ T, p.to way = T := ⟨_, rfl⟩
  obtain ⟨lo, hlo⟩ : ∃ lo, p.low way = lo := ⟨_, rfl⟩
  obtain ⟨hi, hhi⟩ : ∃ hi, p.high way = hi := ⟨_, rfl⟩
  rw [hF, hT] at hf1
  rw [hT] at hf2 hc2
  rw [hlo, hhi] at hf3
  rw [hhi] at hf4
  rw [hF] at hc1
  have HF := Lib.hid hF
  have HT := Lib.hid hT
  have HLO := Lib.hid hlo
  have HHI := Lib.hid hhi
  have HM := Lib.hid hm
  have HV := Lib.hid hv
  obtain ⟨c1, hc1e⟩ : ∃ c1, c = c1 + 1 := ⟨c - 1, by omega⟩
  have hk0 := hv.rt way c1 lo hw (by omega) (by omega)
  obtain ⟨K0, hK0⟩ : ∃ K0, rtS R U way c1 lo = K0 := ⟨_, rfl⟩
  rw [hK0] at hk0
  have HK0 := Lib.hid hk0
  have HKE := Lib.hid hK0
  obtain ⟨n1, n2⟩ := new2 w (.cells #[.int .i64 W, .int .i64 H, .slice RA R.length cr, .slice UA U.length cu] 24) (.cells #[.int .i64 p.a, .int .i64 p.b, .int .i64 p.c, .int .i64 p.d] 64)
  have hb1 : Below w.heap.size w ((w.alloc (.cells #[.int .i64 W, .int .i64 H, .slice RA R.length cr, .slice UA U.length cu] 24)).alloc (.cells #[.int .i64 p.a, .int .i64 p.b, .int .i64 p.c, .int .i64 p.d] 64)) := ((Below.refl _ _).alloc (Nat.le_refl _) _).alloc (by simp) _
  have e0 : IntKind.i64.wrap ((c : Int) - 1) = (c1 : Int) := by rw [IntWalk.i64_in _ (by omega)]; omega
  have HC := Lib.hid hc1e
  unfold Pt.v
  clear hF hT hlo hhi hm hv hk0 hK0 hc1e hp
  go_enter Tryz.func18, Tryz.ntmps18
  go_upto_region 1 with fail
  obtain ⟨V, hV⟩ : ∃ V, V = (w.alloc (.cells #[.int .i64 W, .int .i64 H, .slice RA R.length cr, .slice UA U.length cu] 24)).alloc (.cells #[.int .i64 p.a, .int .i64 p.b, .int .i64 p.c, .int .i64 p.d] 64) := ⟨_, rfl⟩
  rw [← hV] at n1 n2 hb1 ⊢
  obtain ⟨N, hN⟩ : ∃ N, N = w.heap.size := ⟨_, rfl⟩
  rw [← hN] at n1 n2 ⊢
  have N1 := Lib.hid n1
  have hNV : N < V.heap.size := (Array.getElem?_eq_some_iff.1 n1).1
  obtain ⟨⟨x0, x1, x2, x3⟩, _⟩ := blk4 n1
  obtain ⟨⟨y0, y1, y2, y3⟩, _⟩ := blk4 n2
  clear hV n1 n2 hN
  go_cut [10, 11] from 18 to 26 (fun s10 s11 wx => s10 = .int .i64 F ∧ s11 = .int .i64 T ∧ ∃ q, wx = V.drewN q)
  case first =>
    obtain rfl | rfl : way = 0 ∨ way = 1 := by omega
    · have h1 := HF.out
      have h2 := HT.out
      simp only [Pt.from', Pt.to, if_true] at h1 h2
      subst h1 h2
      go_quiet (fail)
      go_wp2_with fail
      go_meet
      exact ⟨rfl, rfl, _, rfl⟩
    · have h1 := HF.out
      have h2 := HT.out
      simp only [Pt.from', Pt.to] at h1 h2
      subst h1 h2
      go_quiet (fail)
      go_wp2_with fail
      go_meet
      exact ⟨rfl, rfl, _, rfl⟩
  case rest =>
    obtain ⟨rfl, rfl, q, rfl⟩ := hcut
    go_upto_region 2 with fail
    go_cut [12, 13] from 27 to 36 (fun s12 s13 wx => s12 = .int .i64 lo ∧ s13 = .int .i64 hi ∧ wx.heap[N]? = some (.cells #[.int .i64 W, .int .i64 H, .slice RA R.length cr, .slice UA U.length cu] 24 (0, 0)) ∧ N < wx.heap.size ∧ Below w.heap.size w wx)
    case first =>
      obtain rfl | rfl : way = 0 ∨ way = 1 := by omega
      · have h1 := HLO.out
        have h2 := HHI.out
        simp only [Pt.low, Pt.high, if_true] at h1 h2
        subst h1 h2
        go_quiet (fail)
        go_wp2_with fail
        go_meet
        exact ⟨rfl, rfl, N1.out, hNV, below_drewN (below_drewN hb1 _) _⟩
      · have h1 := HLO.out
        have h2 := HHI.out
        simp only [Pt.low, Pt.high] at h1 h2
        subst h1 h2
        go_quiet (fail)
        go_wp2_with fail
        go_meet
        exact ⟨rfl, rfl, N1.out, hNV, below_drewN (below_drewN hb1 _) _⟩
    case rest =>
      obtain ⟨rfl, rfl, hN2e, hNV2, hbV⟩ := hcut
      obtain ⟨V2, rfl⟩ : ∃ V2 : World, V2 = wc := ⟨_, rfl⟩
      have N2 := Lib.hid hN2e
      obtain ⟨⟨z0, z1, z2, z3⟩, _⟩ := blk4 hN2e
      clear hN2e x0 x1 x2 x3 y0 y1 y2 y3 hb1 N1 hNV
      go_wp2_with fail
      refine (right_any W H RA UA R U cr cu way c1 lo K0 _ (HM.out.below hbV) HK0.out.1).mono ?_
      rintro e w2 ⟨rfl, hb2⟩
      have hb2' : Below w.heap.size w w2 := hbV.trans (hb2.mono hbV.size)
      have N3 := Lib.hid (kept hb2 N2.out hNV2)
      have hN2 : N < w2.heap.size := Nat.lt_of_lt_of_le hNV2 hb2.size
      clear z0 z1 z2 z3 hb2 N2
      go_wp2_with fail
      go_loopw [15, 16, 17] (fun s15 _ _ wr => ∃ k : Nat, lo ≤ k ∧ k ≤ hi ∧ s15 = .int .i64 k ∧ Hid (∀ k', lo ≤ k' → k' < k → rowP R U p way c k') ∧ wr.heap[N]? = some (.cells #[.int .i64 W, .int .i64 H, .slice RA R.length cr, .slice UA U.length cu] 24 (0, 0)) ∧ N < wr.heap.size ∧ Below w.heap.size w wr) (fun s15 _ _ _ => hi - (intOf s15).toNat)
      case atStart => exact ⟨lo, by omega, by omega, rfl, Lib.hid (fun k' h1 h2 => by omega), N3.out, hN2, hb2'⟩
      case round =>
        obtain ⟨k, hk1, hk2, rfl, HROWS, hbk, hNr, hbr⟩ := hrel
        have HBK := Lib.hid hbk
        obtain ⟨⟨g0, g1, g2, g3⟩, _⟩ := blk4 hbk
        clear hbk
        by_cases hlt : k < hi
        · have hkv := HV.out.rt way c1 k hw (by have := HC.out; omega) (by omega)
          obtain ⟨Kk, hKk⟩ : ∃ Kk, rtS R U way c1 k = Kk := ⟨_, rfl⟩
          rw [hKk] at hkv
          have HKV := Lib.hid hkv
          have HKK := Lib.hid hKk
          have q1 : (k : Int) < (hi : Int) := by omega
          clear hkv hKk
          go_wp2_with fail
          refine (right_any W H RA UA R U cr cu way c1 k Kk _ (HM.out.below hbr) HKV.out.1).mono ?_
          rintro e w3 ⟨rfl, hb3⟩
          have hb3' : Below w.heap.size w w3 := hbr.trans (hb3.mono hbr.size)
          have N4 := Lib.hid (kept hb3 HBK.out hNr)
          have hN3 : N < w3.heap.size := Nat.lt_of_lt_of_le hNr hb3.size
          clear g0 g1 g2 g3 hb3 HBK
          by_cases hKE : Kk = K0
          · have hbn : (Kk != K0) = false := by simpa using hKE
            have HKEQ := Lib.hid hKE
            clear hKE
            go_wp2_with fail
            obtain ⟨wo, rfl⟩ : ∃ wo : World, wo = wr := ⟨_, rfl⟩
            go_loopw [16] (fun s16 wr => ∃ i : Nat, 1 ≤ i ∧ i ≤ 17 ∧ s16 = .int .i64 i ∧ Hid (∀ i', 1 ≤ i' → i' < i → F + i' + 1 ≤ c → c + i' < T → rtS R U way (c - 1 - i') k = opp (rtS R U way (c - 1 + i') k)) ∧ wr.heap[N]? = some (.cells #[.int .i64 W, .int .i64 H, .slice RA R.length cr, .slice UA U.length cu] 24 (0, 0)) ∧ N < wr.heap.size ∧ Below w.heap.size w wr) (fun s16 _ => 20 - (intOf s16).toNat)
            case atStart => exact ⟨1, by omega, by omega, rfl, Lib.hid (fun i' h1 h2 => by omega), N4.out, hN3, hb3'⟩
            case round =>
              obtain ⟨i, hi1, hi2, rfl, HI, hbk, hNq, hbq⟩ := hrel
              have HBQ := Lib.hid hbk
              obtain ⟨⟨d0, d1, d2, d3⟩, _⟩ := blk4 hbk
              clear hbk
              have e1 : IntKind.i64.wrap ((c1 : Int) - (i : Int)) = (c1 : Int) - (i : Int) := IntWalk.i64_in _ (by have := HC.out; omega)
              have e2 : IntKind.i64.wrap ((c : Int) + (i : Int)) = (c : Int) + (i : Int) := IntWalk.i64_in _ (by omega)
              obtain ⟨cb, hcb⟩ : ∃ cb, cb = decide (F + i + 1 ≤ c ∧ c + i < T) := ⟨_, rfl⟩
              have HCB := Lib.hid hcb
              clear hcb
              go_upto_region 10 with fail
              go_cut [69] from 57 to 69 (fun sb wx => sb = .bool cb ∧ wr = wx)
              case first =>
                by_cases k1 : F + i + 1 ≤ c
                · have f1 : (F : Int) ≤ (c1 : Int) - (i : Int) := by have := HC.out; omega
                  by_cases k2 : c + i < T
                  · have f2 : (c : Int) + (i : Int) < (T : Int) := by omega
                    go_wp2_with fail
                    go_meet
                    exact ⟨by rw [HCB.out, decide_eq_true ⟨k1, k2⟩], rfl⟩
                  · have f2 : ¬ (c : Int) + (i : Int) < (T : Int) := by omega
                    go_wp2_with fail
                    go_meet
                    exact ⟨by rw [HCB.out, decide_eq_false (fun h => k2 h.2)], rfl⟩
                · have f1 : ¬ (F : Int) ≤ (c1 : Int) - (i : Int) := by have := HC.out; omega
                  go_wp2_with fail
                  go_meet
                  exact ⟨by rw [HCB.out, decide_eq_false (fun h => k1 h.1)], rfl⟩
              case rest =>
                obtain ⟨rfl, rfl⟩ := hcut
                cases cb
                · have hno := of_decide_eq_false HCB.out.symm
                  have hsec : ∀ i', 1 ≤ i' → F + i' + 1 ≤ c → c + i' < T → rtS R U way (c - 1 - i') k = opp (rtS R U way (c - 1 + i') k) := fun i' h1 h2 h3 => HI.out i' h1 (by omega) h2 h3
                  have HSEC := Lib.hid hsec
                  clear hsec hno e1 e2 d0 d1 d2 d3
                  go_wp2_with fail
                  obtain ⟨wp, rfl⟩ : ∃ wp : World, wp = wr := ⟨_, rfl⟩
                  go_loopw [17] (fun s17 wr => ∃ j : Nat, j ≤ 17 ∧ s17 = .int .i64 j ∧ Hid (k + 1 < hi → ∀ j', j' < j → F + j' + 1 ≤ c → c + j' < T → upS R U way (c - 1 - j') k = opp (upS R U way (c + j') k)) ∧ wr.heap[N]? = some (.cells #[.int .i64 W, .int .i64 H, .slice RA R.length cr, .slice UA U.length cu] 24 (0, 0)) ∧ N < wr.heap.size ∧ Below w.heap.size w wr) (fun s17 _ => 20 - (intOf s17).toNat)
                  case atStart => exact ⟨0, by omega, rfl, Lib.hid (fun _ j' h2 => by omega), HBQ.out, hNq, hbq⟩
                  case round =>
                    obtain ⟨j, hj2, rfl, HJ, hbk, hNq, hbq⟩ := hrel
                    have HBQ := Lib.hid hbk
                    obtain ⟨⟨d0, d1, d2, d3⟩, _⟩ := blk4 hbk
                    clear hbk
                    have e1 : IntKind.i64.wrap ((c1 : Int) - (j : Int)) = (c1 : Int) - (j : Int) := IntWalk.i64_in _ (by have := HC.out; omega)
                    have e2 : IntKind.i64.wrap ((c : Int) + (j : Int)) = (c : Int) + (j : Int) := IntWalk.i64_in _ (by omega)
                    obtain ⟨cd, hcd⟩ : ∃ cd, cd = decide (k + 1 < hi ∧ F + j + 1 ≤ c ∧ c + j < T) := ⟨_, rfl⟩
                    have HCD := Lib.hid hcd
                    clear hcd
                    go_upto_region 15 with fail
                    go_cut [108] from 90 to 108 (fun sb wx => sb = .bool cd ∧ wr = wx)
                    case first =>
                      by_cases k0 : k + 1 < hi
                      · have f0 : (k : Int) + 1 < (hi : Int) := by omega
                        by_cases k1 : F + j + 1 ≤ c
                        · have f1 : (F : Int) ≤ (c1 : Int) - (j : Int) := by have := HC.out; omega
                          by_cases k2 : c + j < T
                          · have f2 : (c : Int) + (j : Int) < (T : Int) := by omega
                            go_wp2_with fail
                            go_meet
                            exact ⟨by rw [HCD.out, decide_eq_true ⟨k0, k1, k2⟩], rfl⟩
                          · have f2 : ¬ (c : Int) + (j : Int) < (T : Int) := by omega
                            go_wp2_with fail
                            go_meet
                            exact ⟨by rw [HCD.out, decide_eq_false (fun h => k2 h.2.2)], rfl⟩
                        · have f1 : ¬ (F : Int) ≤ (c1 : Int) - (j : Int) := by have := HC.out; omega
                          go_wp2_with fail
                          go_meet
                          exact ⟨by rw [HCD.out, decide_eq_false (fun h => k1 h.2.1)], rfl⟩
                      · have f0 : ¬ (k : Int) + 1 < (hi : Int) := by omega
                        go_wp2_with fail
                        go_meet
                        exact ⟨by rw [HCD.out, decide_eq_false (fun h => k0 h.1)], rfl⟩
                    case rest =>
                      obtain ⟨rfl, rfl⟩ := hcut
                      cases cd
                      · have hno := of_decide_eq_false HCD.out.symm
                        have hthi : k + 1 < hi → ∀ j', F + j' + 1 ≤ c → c + j' < T → upS R U way (c - 1 - j') k = opp (upS R U way (c + j') k) := fun h0 j' h2 h3 => HJ.out h0 j' (by omega) h2 h3
                        have hrow : rowP R U p way c k := by
                          unfold rowP
                          rw [HLO.out, HF.out, HT.out, HHI.out]
                          refine ⟨?_, HSEC.out, hthi⟩
                          rw [show c - 1 = c1 by have := HC.out; omega, HKK.out, HKE.out]
                          exact HKEQ.out
                        have HROW := Lib.hid hrow
                        clear hno hthi hrow e1 e2 d0 d1 d2 d3
                        as_aux_lemma =>
                          go_wp2_with fail
                          go_roundw
                          case rel =>
                            refine ⟨k + 1, by omega, by omega, by go_num, Lib.hid (fun k' h1 h2 => ?_), HBQ.out, hNq, hbq⟩
                            rcases Nat.lt_or_ge k' k with h | h
                            · exact HROWS.out k' h1 h
                            · obtain rfl : k' = k := by omega
                              exact HROW.out
                          case measure => simp [intOf]; omega
                      · obtain ⟨hA0, hA1, hA2⟩ := of_decide_eq_true HCD.out.symm
                        obtain ⟨i1, hi1e⟩ : ∃ i1, i1 = c1 - j := ⟨_, rfl⟩
                        obtain ⟨i2, hi2e⟩ : ∃ i2, i2 = c + j := ⟨_, rfl⟩
                        have hcc := HC.out
                        have r1 := HV.out.up way i1 k hw (by omega) (by omega)
                        have r2 := HV.out.up way i2 k hw (by omega) (by omega)
                        obtain ⟨v1, hv1⟩ : ∃ v1, upS R U way i1 k = v1 := ⟨_, rfl⟩
                        obtain ⟨v2, hv2⟩ : ∃ v2, upS R U way i2 k = v2 := ⟨_, rfl⟩
                        rw [hv1] at r1
                        rw [hv2] at r2
                        have R1 := Lib.hid r1
                        have R2 := Lib.hid r2
                        have HV1 := Lib.hid hv1
                        have HV2 := Lib.hid hv2
                        have HI1 := Lib.hid hi1e
                        have HI2 := Lib.hid hi2e
                        have e3 : (c1 : Int) - (j : Int) = (i1 : Int) := by omega
                        have e4 : (c : Int) + (j : Int) = (i2 : Int) := by omega
                        have e5 : IntKind.i64.wrap (i1 : Int) = (i1 : Int) := IntWalk.i64_in _ (by omega)
                        have e6 : IntKind.i64.wrap (i2 : Int) = (i2 : Int) := IntWalk.i64_in _ (by omega)
                        clear r1 r2 hv1 hv2 hi1e hi2e hcc e1 e2
                        go_wp2_with fail
                        go_region_held3 (fun w' => w'.cell? ⟨N, 0, none⟩ = some (.int .i64 W) ∧ w'.cell? ⟨N, 1, none⟩ = some (.int .i64 H) ∧ w'.cell? ⟨N, 2, none⟩ = some (.slice RA R.length cr) ∧ w'.cell? ⟨N, 3, none⟩ = some (.slice UA U.length cu))
                          (first | exact ⟨d0, d1, d2, d3⟩ | go_keep)
                          (first
              | (go_at_call 46; (with_reducible refine (up_any W H RA UA R U cr cu way i1 k v1 _ (HM.out.below hbq.drew) R1.out.1).mono ?_); rintro e' w6 ⟨rfl, hb6⟩; have hbq := hbq.trans ((undrew hb6).mono hbq.size); have HBQ := Lib.hid (kept (undrew hb6) HBQ.out hNq); have hNq := Nat.lt_of_lt_of_le hNq (undrew hb6).size; have d0 := below_cell (undrew hb6) d0; have d1 := below_cell (undrew hb6) d1; have d2 := below_cell (undrew hb6) d2; have d3 := below_cell (undrew hb6) d3)
              | (go_at_call 46; (with_reducible refine (up_any W H RA UA R U cr cu way i1 k v1 _ (HM.out.below hbq) R1.out.1).mono ?_); rintro e' w6 ⟨rfl, hb6⟩; have hbq := hbq.trans (hb6.mono hbq.size); have HBQ := Lib.hid (kept hb6 HBQ.out hNq); have hNq := Nat.lt_of_lt_of_le hNq hb6.size; have d0 := below_cell hb6 d0; have d1 := below_cell hb6 d1; have d2 := below_cell hb6 d2; have d3 := below_cell hb6 d3)
              | (go_at_call 46; (with_reducible refine (up_any W H RA UA R U cr cu way i2 k v2 _ (HM.out.below hbq.drew) R2.out.1).mono ?_); rintro e' w6 ⟨rfl, hb6⟩; have hbq := hbq.trans ((undrew hb6).mono hbq.size); have HBQ := Lib.hid (kept (undrew hb6) HBQ.out hNq); have hNq := Nat.lt_of_lt_of_le hNq (undrew hb6).size; have d0 := below_cell (undrew hb6) d0; have d1 := below_cell (undrew hb6) d1; have d2 := below_cell (undrew hb6) d2; have d3 := below_cell (undrew hb6) d3)
              | (go_at_call 46; (with_reducible refine (up_any W H RA UA R U cr cu way i2 k v2 _ (HM.out.below hbq) R2.out.1).mono ?_); rintro e' w6 ⟨rfl, hb6⟩; have hbq := hbq.trans (hb6.mono hbq.size); have HBQ := Lib.hid (kept hb6 HBQ.out hNq); have hNq := Nat.lt_of_lt_of_le hNq hb6.size; have d0 := below_cell hb6 d0; have d1 := below_cell hb6 d1; have d2 := below_cell hb6 d2; have d3 := below_cell hb6 d3)
              | (go_at_call 45; (with_reducible refine (opposite_any v2 _ R2.out.2).mono ?_); rintro e' w6 ⟨rfl, rfl⟩)
              | fail)
                        all_goals
                          clear d0 d1 d2 d3 e3 e4 e5 e6
                          by_cases hE : v1 = opp v2
                          · have hbE : (v1 != opp v2) = false := by simpa using hE
                            have HE := Lib.hid hE
                            clear hE
                            as_aux_lemma =>
                              go_wp2_with fail
                              go_roundw
                              case rel =>
                                refine ⟨j + 1, by omega, by go_num, Lib.hid (fun h0 j' h1 h2 h3 => ?_), HBQ.out, hNq, hbq⟩
                                rcases Nat.lt_or_ge j' j with h | h
                                · exact HJ.out h0 j' h h2 h3
                                · obtain rfl : j' = j := by omega
                                  rw [show c - 1 - j' = i1 by have := HI1.out; have := HC.out; omega, show c + j' = i2 by have := HI2.out; omega, HV1.out, HV2.out]
                                  exact HE.out
                              case measure => simp [intOf]; omega
                          · have hbE : (v1 != opp v2) = true := by simpa using hE
                            have HE := Lib.hid hE
                            clear hE
                            as_aux_lemma =>
                              go_wp2_with fail
                              go_ret2
                              refine ⟨hbq, .inr ⟨fun hfp => ?_, rfl⟩⟩
                              have h1 := (hfp k (by rw [HLO.out]; exact hk1) (by rw [HHI.out]; exact hlt)).2.2 (by rw [HHI.out]; exact hA0) j (by rw [HF.out]; exact hA1) (by rw [HT.out]; exact hA2)
                              rw [show c - 1 - j = i1 by have := HI1.out; have := HC.out; omega, show c + j = i2 by have := HI2.out; omega, HV1.out, HV2.out] at h1
                              exact HE.out h1
                · obtain ⟨hA1, hA2⟩ := of_decide_eq_true HCB.out.symm
                  obtain ⟨i1, hi1e⟩ : ∃ i1, i1 = c1 - i := ⟨_, rfl⟩
                  obtain ⟨i2, hi2e⟩ : ∃ i2, i2 = c1 + i := ⟨_, rfl⟩
                  have hcc := HC.out
                  have r1 := HV.out.rt way i1 k hw (by omega) (by omega)
                  have r2 := HV.out.rt way i2 k hw (by omega) (by omega)
                  obtain ⟨v1, hv1⟩ : ∃ v1, rtS R U way i1 k = v1 := ⟨_, rfl⟩
                  obtain ⟨v2, hv2⟩ : ∃ v2, rtS R U way i2 k = v2 := ⟨_, rfl⟩
                  rw [hv1] at r1
                  rw [hv2] at r2
                  have R1 := Lib.hid r1
                  have R2 := Lib.hid r2
                  have HV1 := Lib.hid hv1
                  have HV2 := Lib.hid hv2
                  have HI1 := Lib.hid hi1e
                  have HI2 := Lib.hid hi2e
                  have e3 : (c1 : Int) - (i : Int) = (i1 : Int) := by omega
                  have e4 : IntKind.i64.wrap ((c1 : Int) + (i : Int)) = (i2 : Int) := by rw [IntWalk.i64_in _ (by omega)]; omega
                  have e5 : IntKind.i64.wrap (i1 : Int) = (i1 : Int) := IntWalk.i64_in _ (by omega)
                  clear r1 r2 hv1 hv2 hi1e hi2e hcc e1 e2
                  go_wp2_with fail
                  go_region_held3 (fun w' => w'.cell? ⟨N, 0, none⟩ = some (.int .i64 W) ∧ w'.cell? ⟨N, 1, none⟩ = some (.int .i64 H) ∧ w'.cell? ⟨N, 2, none⟩ = some (.slice RA R.length cr) ∧ w'.cell? ⟨N, 3, none⟩ = some (.slice UA U.length cu))
                    (first | exact ⟨d0, d1, d2, d3⟩ | go_keep)
                    (first
              | (go_at_call 44; (with_reducible refine (right_any W H RA UA R U cr cu way i1 k v1 _ (HM.out.below hbq.drew) R1.out.1).mono ?_); rintro e' w6 ⟨rfl, hb6⟩; have hbq := hbq.trans ((undrew hb6).mono hbq.size); have HBQ := Lib.hid (kept (undrew hb6) HBQ.out hNq); have hNq := Nat.lt_of_lt_of_le hNq (undrew hb6).size; have d0 := below_cell (undrew hb6) d0; have d1 := below_cell (undrew hb6) d1; have d2 := below_cell (undrew hb6) d2; have d3 := below_cell (undrew hb6) d3)
              | (go_at_call 44; (with_reducible refine (right_any W H RA UA R U cr cu way i1 k v1 _ (HM.out.below hbq) R1.out.1).mono ?_); rintro e' w6 ⟨rfl, hb6⟩; have hbq := hbq.trans (hb6.mono hbq.size); have HBQ := Lib.hid (kept hb6 HBQ.out hNq); have hNq := Nat.lt_of_lt_of_le hNq hb6.size; have d0 := below_cell hb6 d0; have d1 := below_cell hb6 d1; have d2 := below_cell hb6 d2; have d3 := below_cell hb6 d3)
              | (go_at_call 44; (with_reducible refine (right_any W H RA UA R U cr cu way i2 k v2 _ (HM.out.below hbq.drew) R2.out.1).mono ?_); rintro e' w6 ⟨rfl, hb6⟩; have hbq := hbq.trans ((undrew hb6).mono hbq.size); have HBQ := Lib.hid (kept (undrew hb6) HBQ.out hNq); have hNq := Nat.lt_of_lt_of_le hNq (undrew hb6).size; have d0 := below_cell (undrew hb6) d0; have d1 := below_cell (undrew hb6) d1; have d2 := below_cell (undrew hb6) d2; have d3 := below_cell (undrew hb6) d3)
              | (go_at_call 44; (with_reducible refine (right_any W H RA UA R U cr cu way i2 k v2 _ (HM.out.below hbq) R2.out.1).mono ?_); rintro e' w6 ⟨rfl, hb6⟩; have hbq := hbq.trans (hb6.mono hbq.size); have HBQ := Lib.hid (kept hb6 HBQ.out hNq); have hNq := Nat.lt_of_lt_of_le hNq hb6.size; have d0 := below_cell hb6 d0; have d1 := below_cell hb6 d1; have d2 := below_cell hb6 d2; have d3 := below_cell hb6 d3)
              | (go_at_call 45; (with_reducible refine (opposite_any v2 _ R2.out.2).mono ?_); rintro e' w6 ⟨rfl, rfl⟩)
              | fail)
                  all_goals
                    clear d0 d1 d2 d3 e3 e4 e5
                    by_cases hE : v1 = opp v2
                    · have hbE : (v1 != opp v2) = false := by simpa using hE
                      have HE := Lib.hid hE
                      clear hE
                      as_aux_lemma =>
                        go_wp2_with fail
                        go_roundw
                        case rel =>
                          refine ⟨i + 1, by omega, by omega, by go_num, Lib.hid (fun i' h1 h2 h3 h4 => ?_), HBQ.out, hNq, hbq⟩
                          rcases Nat.lt_or_ge i' i with h | h
                          · exact HI.out i' h1 h h3 h4
                          · obtain rfl : i' = i := by omega
                            rw [show c - 1 - i' = i1 by have := HI1.out; have := HC.out; omega, show c - 1 + i' = i2 by have := HI2.out; have := HC.out; omega, HV1.out, HV2.out]
                            exact HE.out
                        case measure => simp [intOf]; omega
                    · have hbE : (v1 != opp v2) = true := by simpa using hE
                      have HE := Lib.hid hE
                      clear hE
                      as_aux_lemma =>
                        go_wp2_with fail
                        go_ret2
                        refine ⟨hbq, .inr ⟨fun hfp => ?_, rfl⟩⟩
                        have h1 := (hfp k (by rw [HLO.out]; exact hk1) (by rw [HHI.out]; exact hlt)).2.1 i hi1 (by rw [HF.out]; exact hA1) (by rw [HT.out]; exact hA2)
                        rw [show c - 1 - i = i1 by have := HI1.out; have := HC.out; omega, show c - 1 + i = i2 by have := HI2.out; have := HC.out; omega, HV1.out, HV2.out] at h1
                        exact HE.out h1
          · have hbn : (Kk != K0) = true := by simpa using hKE
            have HKEQ := Lib.hid hKE
            clear hKE
            go_wp2_with fail
            go_ret2
            refine ⟨hb3', .inr ⟨fun hfp => ?_, rfl⟩⟩
            have h1 := (hfp k (by rw [HLO.out]; exact hk1) (by rw [HHI.out]; exact hlt)).1
            rw [HLO.out, show c - 1 = c1 by have := HC.out; omega, HKK.out, HKE.out] at h1
            exact HKEQ.out h1
        · obtain rfl : k = hi := by omega
          have q1 : ¬ (k : Int) < (k : Int) := by omega
          have hfp : FoldP R U p way c := fun k' h1 h2 => HROWS.out k' (by rw [HLO.out] at h1; exact h1) (by rw [HHI.out] at h2; exact h2)
          have HFP := Lib.hid hfp
          clear hfp g0 g1 g2 g3
          go_wp2_with fail
          go_ret2
          refine ⟨hbr, .inl ⟨HFP.out, ?_⟩⟩
          rw [HLO.out, show c - 1 = c1 by have := HC.out; omega, HKE.out]
          rfl
end Go.Proofs.YtcgbdkjelbgcfaaGreatDoor
