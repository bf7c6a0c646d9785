/- Contract of Map.plain at a valid map. -/
import Derived.Test.YtcgbdkjelbgcfaaGreatDoorFold
namespace Go.Proofs.YtcgbdkjelbgcfaaGreatDoor
open Go.RowKit

def PlainW (R U : List Row) (p : Pt) (way : Nat) : Prop := ∀ i, p.from' way ≤ i → i + 1 < p.to way → ∀ k, p.low way ≤ k → k < p.high way → rtS R U way i k = 0
/-- A part has no creases. -/
def PlainP (R U : List Row) (p : Pt) : Prop := PlainW R U p 0 ∧ PlainW R U p 1
def PlainRet (R U : List Row) (p : Pt) (w : World) (e : Ending) (w' : World) : Prop :=
  Below w.heap.size w w' ∧ ((PlainP R U p ∧ e = .returned (.bool true)) ∨ (¬ PlainP R U p ∧ e = .returned (.bool false)))

set_option maxHeartbeats 4000000 in
set_option maxRecDepth 100000 in
theorem plain_any (W H : Nat) (RA UA : Option Addr) (R U : List Row) (cr cu : Nat) (p : Pt) (w : World) (hm : MapOk w RA UA R U) (hv : VM W H R U) (hp : InM W H p) :
    Calls Tryz.prog 23 #[.agg #[.int .i64 W, .int .i64 H, .slice RA R.length cr, .slice UA U.length cu], p.v] w (PlainRet R U p w) := by
  obtain ⟨hf1, hf2, hf3, hf4⟩ := hp.way 0
  obtain ⟨a, b, cc, d⟩ := p
  simp only [Pt.from', Pt.to, Pt.low, Pt.high, acr, alo, if_true] at hf1 hf2 hf3 hf4
  have hW16 := hv.w
  have hH16 := hv.h
  have HM := Lib.hid hm
  have HV := Lib.hid hv
  obtain ⟨n1, n2⟩ := new2 w (.cells #[.int .i64 W, .int .i64 H, .slice RA R.length cr, .slice UA U.length cu] 24) (.cells #[.int .i64 a, .int .i64 b, .int .i64 cc, .int .i64 d] 64)
  have hb1 : Below w.heap.size w ((w.alloc (.cells #[.int .i64 W, .int .i64 H, .slice RA R.length cr, .slice UA U.length cu] 24)).alloc (.cells #[.int .i64 a, .int .i64 b, .int .i64 cc, .int .i64 d] 64)) := ((Below.refl _ _).alloc (Nat.le_refl _) _).alloc (by simp) _
  unfold Pt.v
  dsimp only
  clear hm hv hp
  go_enter Tryz.func23, Tryz.ntmps23
  go_upto_region 1 with fail
  obtain ⟨V, hV⟩ : ∃ V, V = (w.alloc (.cells #[.int .i64 W, .int .i64 H, .slice RA R.length cr, .slice UA U.length cu] 24)).alloc (.cells #[.int .i64 a, .int .i64 b, .int .i64 cc, .int .i64 d] 64) := ⟨_, rfl⟩
  rw [← hV] at n1 n2 hb1 ⊢
  obtain ⟨N, hN⟩ : ∃ N, N = w.heap.size := ⟨_, rfl⟩
  rw [← hN] at n1 n2 ⊢
  have N1 := Lib.hid n1
  have N2 := Lib.hid n2
  have hNV : N + 1 < V.heap.size := (Array.getElem?_eq_some_iff.1 n2).1
  clear hV n1 n2 hN
  go_wp2_with fail
  go_loopw [5, 6, 7, 8] (fun _ _ _ s8 wr => ∃ (wy : Nat) (z : Int), wy ≤ 2 ∧ s8 = .int .i64 z ∧ z = wy ∧ Hid (∀ y, y < wy → PlainW R U ⟨a, b, cc, d⟩ y) ∧ wr.heap[N]? = some (.cells #[.int .i64 W, .int .i64 H, .slice RA R.length cr, .slice UA U.length cu] 24 (0, 0)) ∧ wr.heap[N + 1]? = some (.cells #[.int .i64 a, .int .i64 b, .int .i64 cc, .int .i64 d] 64 (0, 0)) ∧ N + 1 < wr.heap.size ∧ Below w.heap.size w wr) (fun _ _ _ s8 _ => 2 - (intOf s8).toNat)
  case atStart => exact ⟨0, 0, by omega, rfl, rfl, Lib.hid (fun y h => by omega), N1.out, N2.out, hNV, hb1⟩
  case round =>
    obtain ⟨wy, z, hwy, rfl, hz, HY, hbk, hbp, hNr, hbr⟩ := hrel
    have HBK := Lib.hid hbk
    have HBP := Lib.hid hbp
    obtain ⟨⟨g0, g1, g2, g3⟩, _⟩ := blk4 hbk
    obtain ⟨⟨p0, p1, p2, p3⟩, _⟩ := blk4 hbp
    clear hbk hbp
    obtain rfl | rfl | rfl : wy = 0 ∨ wy = 1 ∨ wy = 2 := by omega
    · obtain rfl : z = 0 := by simpa using hz
      clear hz
      go_wp2_with fail
      obtain ⟨wo, rfl⟩ : ∃ wo : World, wo = wr := ⟨_, rfl⟩
      go_loopw [6, 7] (fun s6 _ wr => ∃ i : Nat, a ≤ i ∧ i ≤ b ∧ s6 = .int .i64 i ∧ Hid (∀ i', a ≤ i' → i' < i → i' + 1 < b → ∀ k, cc ≤ k → k < d → rtS R U 0 i' k = 0) ∧ wr.heap[N]? = some (.cells #[.int .i64 W, .int .i64 H, .slice RA R.length cr, .slice UA U.length cu] 24 (0, 0)) ∧ wr.heap[N + 1]? = some (.cells #[.int .i64 a, .int .i64 b, .int .i64 cc, .int .i64 d] 64 (0, 0)) ∧ N + 1 < wr.heap.size ∧ Below w.heap.size w wr) (fun s6 _ _ => b + 1 - (intOf s6).toNat)
      case atStart => exact ⟨a, by omega, by omega, rfl, Lib.hid (fun i' h1 h2 => by omega), HBK.out, HBP.out, hNr, hbr⟩
      case round =>
        obtain ⟨i, hi1, hi2, rfl, HI, hbk, hbp, hNr, hbr⟩ := hrel
        have HBK := Lib.hid hbk
        have HBP := Lib.hid hbp
        obtain ⟨⟨g0, g1, g2, g3⟩, _⟩ := blk4 hbk
        obtain ⟨⟨p0, p1, p2, p3⟩, _⟩ := blk4 hbp
        clear hbk hbp
        by_cases hlt : i + 1 < b
        · have q1 : (i : Int) + 1 < (b : Int) := by omega
          go_wp2_with fail
          obtain ⟨wq, rfl⟩ : ∃ wq : World, wq = wr := ⟨_, rfl⟩
          go_loopw [7] (fun s7 wr => ∃ k : Nat, cc ≤ k ∧ k ≤ d ∧ s7 = .int .i64 k ∧ Hid (∀ k', cc ≤ k' → k' < k → rtS R U 0 i k' = 0) ∧ wr.heap[N]? = some (.cells #[.int .i64 W, .int .i64 H, .slice RA R.length cr, .slice UA U.length cu] 24 (0, 0)) ∧ wr.heap[N + 1]? = some (.cells #[.int .i64 a, .int .i64 b, .int .i64 cc, .int .i64 d] 64 (0, 0)) ∧ N + 1 < wr.heap.size ∧ Below w.heap.size w wr) (fun s7 _ => d - (intOf s7).toNat)
          case atStart => exact ⟨cc, by omega, by omega, rfl, Lib.hid (fun k' h1 h2 => by omega), HBK.out, HBP.out, hNr, hbr⟩
          case round =>
            obtain ⟨k, hk1, hk2, rfl, HK, hbk, hbp, hNr, hbr⟩ := hrel
            have HBK := Lib.hid hbk
            have HBP := Lib.hid hbp
            obtain ⟨⟨g0, g1, g2, g3⟩, _⟩ := blk4 hbk
            obtain ⟨⟨p0, p1, p2, p3⟩, _⟩ := blk4 hbp
            clear hbk hbp
            by_cases hkl : k < d
            · have q2 : (k : Int) < (d : Int) := by omega
              have hr := HV.out.rt 0 i k (by omega) (by simp only [acr]; simp; omega) (by simp only [alo]; simp; omega)
              obtain ⟨v, hv⟩ : ∃ v, rtS R U 0 i k = v := ⟨_, rfl⟩
              rw [hv] at hr
              have HRR := Lib.hid hr
              have HVV := Lib.hid hv
              clear hr hv
              go_wp2_with fail
              refine (right_any W H RA UA R U cr cu 0 i k v _ (HM.out.below hbr) HRR.out.1).mono ?_
              rintro e w3 ⟨rfl, hb3⟩
              have hb3' : Below w.heap.size w w3 := hbr.trans (hb3.mono hbr.size)
              have K1 := Lib.hid (kept hb3 HBK.out (by omega))
              have K2 := Lib.hid (kept hb3 HBP.out hNr)
              have hN3 : N + 1 < w3.heap.size := Nat.lt_of_lt_of_le hNr hb3.size
              clear g0 g1 g2 g3 p0 p1 p2 p3 hb3
              by_cases hz : v = 0
              · have hbz : (v != 0) = false := by simp [hz]
                have HZ := Lib.hid hz
                clear hz
                as_aux_lemma =>
                  go_wp2_with fail
                  go_roundw
                  case rel =>
                    refine ⟨k + 1, by omega, by omega, by go_num, Lib.hid (fun k' h1 h2 => ?_), K1.out, K2.out, hN3, hb3'⟩
                    rcases Nat.lt_or_ge k' k with h | h
                    · exact HK.out k' h1 h
                    · obtain rfl : k' = k := by omega
                      exact HVV.out.trans HZ.out
                  case measure => simp [intOf]; omega
              · have hbz : (v != 0) = true := by simpa using hz
                have HZ := Lib.hid hz
                clear hz
                as_aux_lemma =>
                  go_wp2_with fail
                  go_ret
                  refine ⟨hb3', .inr ⟨fun hpp => ?_, rfl⟩⟩
                  have h1 := hpp.1 i hi1 hlt k hk1 hkl
                  rw [HVV.out] at h1
                  exact HZ.out h1
            · have q2 : ¬ (k : Int) < (d : Int) := by omega
              as_aux_lemma =>
                go_wp2_with fail
                go_roundw
                case rel =>
                  refine ⟨i + 1, by omega, by omega, by go_num, Lib.hid (fun i' h1 h2 h3 k' h4 h5 => ?_), HBK.out, HBP.out, hNr, hbr⟩
                  rcases Nat.lt_or_ge i' i with h | h
                  · exact HI.out i' h1 h h3 k' h4 h5
                  · obtain rfl : i' = i := by omega
                    exact HK.out k' h4 (by omega)
                case measure => simp [intOf]; omega
        · have q1 : ¬ (i : Int) + 1 < (b : Int) := by omega
          have hpw : PlainW R U ⟨a, b, cc, d⟩ 0 := fun i' h1 h2 k' h3 h4 => by
            simp only [Pt.from', Pt.to, Pt.low, Pt.high] at h1 h2 h3 h4
            exact HI.out i' h1 (by simp at h2; omega) h2 k' h3 h4
          have HPW := Lib.hid hpw
          clear hpw
          as_aux_lemma =>
            go_wp2_with fail
            go_roundw
            case rel =>
              refine ⟨0 + 1, 1, by omega, by go_num, by omega, Lib.hid (fun y hy => ?_), HBK.out, HBP.out, hNr, hbr⟩
              rcases Nat.lt_or_ge y 0 with h | h
              · exact HY.out y h
              · obtain rfl : y = 0 := by omega
                exact HPW.out
            case measure => simp [intOf]
    · obtain rfl : z = 1 := by simpa using hz
      clear hz
      go_wp2_with fail
      obtain ⟨wo, rfl⟩ : ∃ wo : World, wo = wr := ⟨_, rfl⟩
      go_loopw [6, 7] (fun s6 _ wr => ∃ i : Nat, cc ≤ i ∧ i ≤ d ∧ s6 = .int .i64 i ∧ Hid (∀ i', cc ≤ i' → i' < i → i' + 1 < d → ∀ k, a ≤ k → k < b → rtS R U 1 i' k = 0) ∧ wr.heap[N]? = some (.cells #[.int .i64 W, .int .i64 H, .slice RA R.length cr, .slice UA U.length cu] 24 (0, 0)) ∧ wr.heap[N + 1]? = some (.cells #[.int .i64 a, .int .i64 b, .int .i64 cc, .int .i64 d] 64 (0, 0)) ∧ N + 1 < wr.heap.size ∧ Below w.heap.size w wr) (fun s6 _ _ => d + 1 - (intOf s6).toNat)
      case atStart => exact ⟨cc, by omega, by omega, rfl, Lib.hid (fun i' h1 h2 => by omega), HBK.out, HBP.out, hNr, hbr⟩
      case round =>
        obtain ⟨i, hi1, hi2, rfl, HI, hbk, hbp, hNr, hbr⟩ := hrel
        have HBK := Lib.hid hbk
        have HBP := Lib.hid hbp
        obtain ⟨⟨g0, g1, g2, g3⟩, _⟩ := blk4 hbk
        obtain ⟨⟨p0, p1, p2, p3⟩, _⟩ := blk4 hbp
        clear hbk hbp
        by_cases hlt : i + 1 < d
        · have q1 : (i : Int) + 1 < (d : Int) := by omega
          go_wp2_with fail
          obtain ⟨wq, rfl⟩ : ∃ wq : World, wq = wr := ⟨_, rfl⟩
          go_loopw [7] (fun s7 wr => ∃ k : Nat, a ≤ k ∧ k ≤ b ∧ s7 = .int .i64 k ∧ Hid (∀ k', a ≤ k' → k' < k → rtS R U 1 i k' = 0) ∧ wr.heap[N]? = some (.cells #[.int .i64 W, .int .i64 H, .slice RA R.length cr, .slice UA U.length cu] 24 (0, 0)) ∧ wr.heap[N + 1]? = some (.cells #[.int .i64 a, .int .i64 b, .int .i64 cc, .int .i64 d] 64 (0, 0)) ∧ N + 1 < wr.heap.size ∧ Below w.heap.size w wr) (fun s7 _ => b - (intOf s7).toNat)
          case atStart => exact ⟨a, by omega, by omega, rfl, Lib.hid (fun k' h1 h2 => by omega), HBK.out, HBP.out, hNr, hbr⟩
          case round =>
            obtain ⟨k, hk1, hk2, rfl, HK, hbk, hbp, hNr, hbr⟩ := hrel
            have HBK := Lib.hid hbk
            have HBP := Lib.hid hbp
            obtain ⟨⟨g0, g1, g2, g3⟩, _⟩ := blk4 hbk
            obtain ⟨⟨p0, p1, p2, p3⟩, _⟩ := blk4 hbp
            clear hbk hbp
            by_cases hkl : k < b
            · have q2 : (k : Int) < (b : Int) := by omega
              have hr := HV.out.rt 1 i k (by omega) (by simp only [acr]; simp; omega) (by simp only [alo]; simp; omega)
              obtain ⟨v, hv⟩ : ∃ v, rtS R U 1 i k = v := ⟨_, rfl⟩
              rw [hv] at hr
              have HRR := Lib.hid hr
              have HVV := Lib.hid hv
              clear hr hv
              go_wp2_with fail
              refine (right_any W H RA UA R U cr cu 1 i k v _ (HM.out.below hbr) HRR.out.1).mono ?_
              rintro e w3 ⟨rfl, hb3⟩
              have hb3' : Below w.heap.size w w3 := hbr.trans (hb3.mono hbr.size)
              have K1 := Lib.hid (kept hb3 HBK.out (by omega))
              have K2 := Lib.hid (kept hb3 HBP.out hNr)
              have hN3 : N + 1 < w3.heap.size := Nat.lt_of_lt_of_le hNr hb3.size
              clear g0 g1 g2 g3 p0 p1 p2 p3 hb3
              by_cases hz : v = 0
              · have hbz : (v != 0) = false := by simp [hz]
                have HZ := Lib.hid hz
                clear hz
                as_aux_lemma =>
                  go_wp2_with fail
                  go_roundw
                  case rel =>
                    refine ⟨k + 1, by omega, by omega, by go_num, Lib.hid (fun k' h1 h2 => ?_), K1.out, K2.out, hN3, hb3'⟩
                    rcases Nat.lt_or_ge k' k with h | h
                    · exact HK.out k' h1 h
                    · obtain rfl : k' = k := by omega
                      exact HVV.out.trans HZ.out
                  case measure => simp [intOf]; omega
              · have hbz : (v != 0) = true := by simpa using hz
                have HZ := Lib.hid hz
                clear hz
                as_aux_lemma =>
                  go_wp2_with fail
                  go_ret
                  refine ⟨hb3', .inr ⟨fun hpp => ?_, rfl⟩⟩
                  have h1 := hpp.2 i hi1 hlt k hk1 hkl
                  rw [HVV.out] at h1
                  exact HZ.out h1
            · have q2 : ¬ (k : Int) < (b : Int) := by omega
              as_aux_lemma =>
                go_wp2_with fail
                go_roundw
                case rel =>
                  refine ⟨i + 1, by omega, by omega, by go_num, Lib.hid (fun i' h1 h2 h3 k' h4 h5 => ?_), HBK.out, HBP.out, hNr, hbr⟩
                  rcases Nat.lt_or_ge i' i with h | h
                  · exact HI.out i' h1 h h3 k' h4 h5
                  · obtain rfl : i' = i := by omega
                    exact HK.out k' h4 (by omega)
                case measure => simp [intOf]; omega
        · have q1 : ¬ (i : Int) + 1 < (d : Int) := by omega
          have hpw : PlainW R U ⟨a, b, cc, d⟩ 1 := fun i' h1 h2 k' h3 h4 => by
            simp only [Pt.from', Pt.to, Pt.low, Pt.high] at h1 h2 h3 h4
            exact HI.out i' h1 (by simp at h2; omega) h2 k' h3 h4
          have HPW := Lib.hid hpw
          clear hpw
          as_aux_lemma =>
            go_wp2_with fail
            go_roundw
            case rel =>
              refine ⟨1 + 1, 2, by omega, by go_num, by omega, Lib.hid (fun y hy => ?_), HBK.out, HBP.out, hNr, hbr⟩
              rcases Nat.lt_or_ge y 1 with h | h
              · exact HY.out y h
              · obtain rfl : y = 1 := by omega
                exact HPW.out
            case measure => simp [intOf]
    · obtain rfl : z = 2 := by simpa using hz
      clear hz
      go_wp2_with fail
      go_ret
      exact ⟨hbr, .inl ⟨⟨HY.out 0 (by omega), HY.out 1 (by omega)⟩, rfl⟩⟩
end Go.Proofs.YtcgbdkjelbgcfaaGreatDoor
