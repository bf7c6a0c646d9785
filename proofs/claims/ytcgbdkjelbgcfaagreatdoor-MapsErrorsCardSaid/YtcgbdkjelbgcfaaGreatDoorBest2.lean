/- Contract of Map.best at a valid map. -/
import Derived.Test.YtcgbdkjelbgcfaaGreatDoorBest
namespace Go.Proofs.YtcgbdkjelbgcfaaGreatDoor
open Go.RowKit

set_option maxHeartbeats 4000000 in
set_option maxRecDepth 100000 in
theorem best_any (W H : Nat) (RA UA : Option Addr) (R U : List Row) (cr cu M : Nat) (hv : VM W H R U) : ∀ (k : Nat) (p : Pt) (w : World), p.area ≤ k → MapOk w RA UA R U → InM W H p → KnownOk w M →
    Calls Tryz.prog 24 #[.agg #[.int .i64 W, .int .i64 H, .slice RA R.length cr, .slice UA U.length cu], p.v, .map (some M)] w (BestRet M p w) := by
  intro k
  induction k with
  | zero =>
    intro p w ha _ hp _
    have := hp.x; have := hp.y; unfold Pt.area at ha; omega
  | succ k ih =>
    intro p w ha hm hp hk
    obtain ⟨hf1, hf2, hf3, hf4⟩ := hp.way 0
    obtain ⟨a, b, cc, d⟩ := p
    simp only [Pt.from', Pt.to, Pt.low, Pt.high, acr, alo, if_true] at hf1 hf2 hf3 hf4
    have hW16 := hv.w
    have hH16 := hv.h
    have hMlt := hk.lt
    have HM := Lib.hid hm
    have HV := Lib.hid hv
    have HP := Lib.hid hp
    have HK := Lib.hid hk
    have HA := Lib.hid ha
    have HI := Lib.hid ih
    obtain ⟨n1, n2⟩ := new2 w (.cells #[.int .i64 W, .int .i64 H, .slice RA R.length cr, .slice UA U.length cu] 24) (.cells #[.int .i64 a, .int .i64 b, .int .i64 cc, .int .i64 d] 64)
    have hb1 : Below w.heap.size w ((w.alloc (.cells #[.int .i64 W, .int .i64 H, .slice RA R.length cr, .slice UA U.length cu] 24)).alloc (.cells #[.int .i64 a, .int .i64 b, .int .i64 cc, .int .i64 d] 64)) := ((Below.refl _ _).alloc (Nat.le_refl _) _).alloc (by simp) _
    unfold Pt.v
    dsimp only
    clear hm hv hp hk ha ih
    go_enter Tryz.func24, Tryz.ntmps24
    go_upto_region 1 with fail
    obtain ⟨V, hV⟩ : ∃ V, V = ((w.alloc (.cells #[.int .i64 W, .int .i64 H, .slice RA R.length cr, .slice UA U.length cu] 24)).alloc (.cells #[.int .i64 a, .int .i64 b, .int .i64 cc, .int .i64 d] 64)).alloc (.cells #[.int .i64 0, .int .i64 0, .int .i64 0] 73) := ⟨_, rfl⟩
    obtain ⟨N, hN⟩ : ∃ N, N = w.heap.size := ⟨_, rfl⟩
    have hVs : V.heap.size = N + 3 := by rw [hV, hN]; simp
    have hbV : Below N w V := by rw [hV, hN]; exact (((Below.refl _ _).alloc (Nat.le_refl _) _).alloc (by simp) _).alloc (by simp; omega) _
    have m0 : V.heap[N]? = some (.cells #[.int .i64 W, .int .i64 H, .slice RA R.length cr, .slice UA U.length cu] 24 (0, 0)) := by
      rw [hV, hN, Below.heap_alloc _ _ _ (by simp; omega)]; exact n1
    have m1 : V.heap[N + 1]? = some (.cells #[.int .i64 a, .int .i64 b, .int .i64 cc, .int .i64 d] 64 (0, 0)) := by
      rw [hV, hN, Below.heap_alloc _ _ _ (by simp)]; exact n2
    have m2 : V.heap[N + 1 + 1]? = some (.cells #[.int .i64 0, .int .i64 0, .int .i64 0] 73 (0, 0)) := by
      have := heap_alloc_new ((w.alloc (.cells #[.int .i64 W, .int .i64 H, .slice RA R.length cr, .slice UA U.length cu] 24)).alloc (.cells #[.int .i64 a, .int .i64 b, .int .i64 cc, .int .i64 d] 64)) (.cells #[.int .i64 0, .int .i64 0, .int .i64 0] 73)
      rw [hV, hN]; simpa using this
    rw [← hN] at hMlt
    have hkV : KnownOk V M := HK.out.below hbV hMlt
    have HKV := Lib.hid hkV
    have M0 := Lib.hid m0
    have M1 := Lib.hid m1
    have M2 := Lib.hid m2
    obtain ⟨⟨p0, p1, p2, p3⟩, _⟩ := blk4 m1
    obtain ⟨⟨z0, z1, z2⟩, u0, u1, u2⟩ := blk3 m2
    rw [← hV, ← hN]
    have hNV : N + 1 + 1 < V.heap.size := by omega
    have HNN := Lib.hid hN
    have HVS := Lib.hid hVs
    clear hV n1 n2 hb1 m0 m1 m2 hkV hN hVs
    go_wp2_with (at_lookup; refine wpList_lookup_known _ rfl _ _ rfl M a b cc d rfl rfl HKV.out ?_; intro f way c ok hG)
    · obtain ⟨X, hX⟩ : ∃ X, X = (((V.setCell ⟨N + 1 + 1, 0, none⟩ (.int .i64 f)).setCell ⟨N + 1 + 1, 1, none⟩ (.int .i64 way)).setCell ⟨N + 1 + 1, 2, none⟩ (.int .i64 c)).alloc (.cells #[.int .i64 f, .int .i64 way, .int .i64 c] 73) := ⟨_, rfl⟩
      obtain ⟨hq, hs, _⟩ := setCell3 M2.out (.int .i64 f) (.int .i64 way) (.int .i64 c)
      have hq' : X.heap[N + 1 + 1]? = some (.cells #[.int .i64 f, .int .i64 way, .int .i64 c] 73 (0, 0)) := by
        rw [hX, Below.heap_alloc _ _ _ (by rw [hs]; exact hNV)]; exact hq
      have hBV : Below N V X := by
        rw [hX]
        exact ((((Below.refl N V).setCell (p := ⟨N + 1 + 1, 0, none⟩) (by simp; omega) (.int .i64 f)).setCell (p := ⟨N + 1 + 1, 1, none⟩) (by simp; omega) (.int .i64 way)).setCell (p := ⟨N + 1 + 1, 2, none⟩) (by simp; omega) (.int .i64 c)).alloc (by rw [hs]; omega) _
      rw [← hX]
      obtain ⟨⟨r0, r1, r2⟩, _⟩ := blk3 hq'
      clear hX hq hs hq' z0 z1 z2 p0 p1 p2 p3
      exact bodyPost_ret (v := .agg #[.int .i64 f, .int .i64 way, .int .i64 c]) (by simp [results, Tryz.results24, go_sem, r0, r1, r2]) rfl ⟨f, way, c, rfl, hG, HKV.out.below hBV hMlt, grown_of_below HNN.out (hbV.trans hBV)⟩
    · obtain rfl : ok = false := by assumption
      have hbs : ∀ x : Obj, BI w N V.heap.size M #[.int .i64 W, .int .i64 H, .slice RA R.length cr, .slice UA U.length cu] #[.int .i64 a, .int .i64 b, .int .i64 cc, .int .i64 d] ⟨a, b, cc, d⟩ ((V.alloc x).alloc (.cells #[.int .i64 0, .int .i64 0, .int .i64 0] 73)) := by
        intro x
        have hBY : Below V.heap.size V ((V.alloc x).alloc (.cells #[.int .i64 0, .int .i64 0, .int .i64 0] 73)) := ((Below.refl _ _).alloc (Nat.le_refl _) _).alloc (by simp) _
        refine ⟨kept hBY M0.out (by omega), kept hBY M1.out (by omega), kept hBY M2.out hNV, ⟨0, 0, 0, ?_, .inl rfl⟩, HKV.out.below hBY (by omega), grown_of_below HNN.out (hbV.trans (hBY.mono (by omega))), by simp⟩
        have := heap_alloc_new (V.alloc x) (.cells #[.int .i64 0, .int .i64 0, .int .i64 0] 73)
        simpa using this
      have HBS := Lib.hid hbs
      have HBM : Hid (∀ w', BI w N V.heap.size M #[.int .i64 W, .int .i64 H, .slice RA R.length cr, .slice UA U.length cu] #[.int .i64 a, .int .i64 b, .int .i64 cc, .int .i64 d] ⟨a, b, cc, d⟩ w' → MapOk w' RA UA R U) := Lib.hid fun w' h => HM.out.grown HK.out h.k h.g
      clear hbs z0 z1 z2 p0 p1 p2 p3 u0 u1 u2
      go_loopw [10, 11, 12, 13, 14, 15, 16, 17, 26] (fun _ _ _ _ _ _ _ _ s26 wr => ∃ (wy : Nat) (z : Int), wy ≤ 2 ∧ s26 = .int .i64 z ∧ z = wy ∧ BI w N V.heap.size M #[.int .i64 W, .int .i64 H, .slice RA R.length cr, .slice UA U.length cu] #[.int .i64 a, .int .i64 b, .int .i64 cc, .int .i64 d] ⟨a, b, cc, d⟩ wr) (fun _ _ _ _ _ _ _ _ s26 _ => 2 - (intOf s26).toNat)
      case atStart => exact ⟨0, 0, by omega, rfl, rfl, HBS.out _⟩
      case round =>
        obtain ⟨wy, z, hwy, rfl, hz, hbi⟩ := hrel
        obtain rfl | rfl | rfl : wy = 0 ∨ wy = 1 ∨ wy = 2 := by omega
        · obtain rfl : z = 0 := by simpa using hz
          clear hz
          obtain ⟨⟨p0, p1, p2, p3⟩, _⟩ := blk4 hbi.p
          have HBI := Lib.hid hbi
          clear hbi
          go_wp2_with fail
          obtain ⟨wo, rfl⟩ : ∃ wo : World, wo = wr := ⟨_, rfl⟩
          clear p0 p1 p2 p3
          go_loopw [11, 12, 13, 14, 15, 16, 17] (fun s11 _ _ _ _ _ _ wr => ∃ c : Nat, a + 1 ≤ c ∧ c ≤ b ∧ s11 = .int .i64 c ∧ BI w N V.heap.size M #[.int .i64 W, .int .i64 H, .slice RA R.length cr, .slice UA U.length cu] #[.int .i64 a, .int .i64 b, .int .i64 cc, .int .i64 d] ⟨a, b, cc, d⟩ wr) (fun s11 _ _ _ _ _ _ _ => b - (intOf s11).toNat)
          case atStart => exact ⟨a + 1, by omega, by omega, by go_num, HBI.out⟩
          case round =>
            obtain ⟨c, hc1, hc2, rfl, hbi⟩ := hrel
            obtain ⟨⟨g0, g1, g2, g3⟩, _⟩ := blk4 hbi.m
            obtain ⟨⟨p0, p1, p2, p3⟩, _⟩ := blk4 hbi.p
            have hs := hbi.s
            have HB := Lib.hid hbi
            clear hbi
            by_cases hlt : c < b
            · have q1 : (c : Int) < (b : Int) := by omega
              obtain ⟨fi, fb, hfk⟩ : ∃ fi fb, fold2 R U ⟨a, b, cc, d⟩ 0 c = (fi, fb) := ⟨_, _, rfl⟩
              have hfo : ∀ w', MapOk w' RA UA R U → Calls Tryz.prog 18 #[.agg #[.int .i64 W, .int .i64 H, .slice RA R.length cr, .slice UA U.length cu], .agg #[.int .i64 a, .int .i64 b, .int .i64 cc, .int .i64 d], .int .i64 0, .int .i64 c] w' (RetBelow (.tuple #[.int .u8 (fold2 R U ⟨a, b, cc, d⟩ 0 c).1, .bool (fold2 R U ⟨a, b, cc, d⟩ 0 c).2]) w') := fun w' hm' => folds_run W H RA UA R U cr cu ⟨a, b, cc, d⟩ 0 c w' hm' HV.out HP.out (by omega) (by simp [Pt.from']; omega) (by simp [Pt.to]; omega)
              rw [hfk] at hfo
              dsimp only at hfo
              have HFO := Lib.hid hfo
              clear hfk hfo
              go_wp2_with fail
              refine (HFO.out _ (HBM.out _ HB.out)).mono ?_
              rintro e w3 ⟨rfl, hb3⟩
              have hbi3 := HB.out.below hMlt HNN.out hNV (hb3.mono (by omega))
              clear g0 g1 g2 g3 p0 p1 p2 p3
              have hs3 := hbi3.s
              have HB3 := Lib.hid hbi3
              cases fb
              · clear hbi3
                as_aux_lemma =>
                  go_wp2_with fail
                  go_roundw
                  case rel =>
                    exact ⟨c + 1, by omega, by omega, by go_num, HB3.out⟩
                  case measure => simp [intOf]; omega
              · obtain ⟨⟨g0, g1, g2, g3⟩, _⟩ := blk4 hbi3.m
                obtain ⟨⟨p0, p1, p2, p3⟩, _⟩ := blk4 hbi3.p
                obtain ⟨⟨qa, qb, qc, qd⟩, qs, hlp⟩ : ∃ q s, leftP ⟨a, b, cc, d⟩ 0 c = (q, s) := ⟨_, _, rfl⟩
                have hlf : ∀ w', Calls Tryz.prog 21 #[.agg #[.int .i64 a, .int .i64 b, .int .i64 cc, .int .i64 d], .int .i64 0, .int .i64 c] w' (RetBelow (.tuple #[(leftP ⟨a, b, cc, d⟩ 0 c).1.v, .int .u8 (leftP ⟨a, b, cc, d⟩ 0 c).2]) w') := fun w' => left_any ⟨a, b, cc, d⟩ 0 c w' (by omega) (by dsimp only; omega) (by dsimp only; omega) (by dsimp only; omega) (by dsimp only; omega) (by omega)
                have hin := leftP_in (way := 0) (c := c) HP.out (by omega) (by simp [Pt.from']; omega) (by simp [Pt.to]; omega)
                have har := leftP_area (way := 0) (c := c) HP.out (by omega) (by simp [Pt.from']; omega) (by simp [Pt.to]; omega)
                rw [hlp] at hlf hin har
                unfold Pt.v at hlf
                dsimp only at hlf hin har
                have HLF := Lib.hid hlf
                have HIN := Lib.hid hin
                have har' := Nat.le_trans har HA.out
                have HAR := Lib.hid (Nat.lt_succ_iff.1 har')
                obtain ⟨pb, hpb⟩ : ∃ pb, plainB R U ⟨qa, qb, qc, qd⟩ = pb := ⟨_, rfl⟩
                have hpl : ∀ w', MapOk w' RA UA R U → Calls Tryz.prog 23 #[.agg #[.int .i64 W, .int .i64 H, .slice RA R.length cr, .slice UA U.length cu], .agg #[.int .i64 qa, .int .i64 qb, .int .i64 qc, .int .i64 qd]] w' (RetBelow (.bool (plainB R U ⟨qa, qb, qc, qd⟩)) w') := fun w' hm' => plain_run W H RA UA R U cr cu ⟨qa, qb, qc, qd⟩ w' hm' HV.out HIN.out
                rw [hpb] at hpl
                have HPL := Lib.hid hpl
                clear hlp hlf hin har har' hpb hpl hbi3
                go_wp2_with fail
                refine (HLF.out _).mono ?_
                rintro e w4 ⟨rfl, hb4⟩
                have hbi4 := HB3.out.below hMlt HNN.out hNV (hb4.mono (by omega))
                have hs4 := hbi4.s
                have hbi5 : BI w N V.heap.size M #[.int .i64 W, .int .i64 H, .slice RA R.length cr, .slice UA U.length cu] #[.int .i64 a, .int .i64 b, .int .i64 cc, .int .i64 d] ⟨a, b, cc, d⟩ (w4.alloc (.cells #[.int .i64 qa, .int .i64 qb, .int .i64 qc, .int .i64 qd] 64)) := hbi4.below hMlt HNN.out hNV ((Below.refl _ _).alloc (by omega) _)
                clear g0 g1 g2 g3 p0 p1 p2 p3
                obtain ⟨⟨g0, g1, g2, g3⟩, _⟩ := blk4 hbi4.m
                have HB5 := Lib.hid hbi5
                have hN4 : N < w4.heap.size := by omega
                clear hbi4 hbi5
                go_wp2_with fail
                refine (HPL.out _ (HBM.out _ HB5.out)).mono ?_
                rintro e w5 ⟨rfl, hb5⟩
                have hbi6 := HB5.out.below hMlt HNN.out hNV (hb5.mono (by simp; omega))
                have hnx : w5.heap[w4.heap.size]? = some (.cells #[.int .i64 qa, .int .i64 qb, .int .i64 qc, .int .i64 qd] 64 (0, 0)) := kept hb5 (heap_alloc_new w4 _) (by simp)
                clear g0 g1 g2 g3
                have HB6 := Lib.hid hbi6
                obtain ⟨⟨g0, g1, g2, g3⟩, _⟩ := blk4 hbi6.m
                obtain ⟨⟨n0, n1, n2, n3⟩, _⟩ := blk4 hnx
                have hs6 := hbi6.s
                have HGC : Hid (∀ f : Int, GoodC ⟨a, b, cc, d⟩ f 0 c) := Lib.hid fun f => .inr ⟨0, c, rfl, rfl, by omega, by simp [Pt.from']; omega, by simp [Pt.to]; omega⟩
                cases pb
                · clear hbi6 hnx
                  go_wp2_with fail
                  refine (HI.out ⟨qa, qb, qc, qd⟩ _ HAR.out (HBM.out _ HB6.out) HIN.out HB6.out.k).mono ?_
                  rintro e w6 ⟨fx, yx, cx, rfl, hGx, hk6, hg6⟩
                  have hbi7 := HB6.out.grown hMlt hNV hg6 hk6
                  have hs7 := hbi7.s
                  clear g0 g1 g2 g3 n0 n1 n2 n3
                  have hbi8 : BI w N V.heap.size M #[.int .i64 W, .int .i64 H, .slice RA R.length cr, .slice UA U.length cu] #[.int .i64 a, .int .i64 b, .int .i64 cc, .int .i64 d] ⟨a, b, cc, d⟩ (w6.alloc (.cells #[.int .i64 fx, .int .i64 yx, .int .i64 cx] 73)) := hbi7.below hMlt HNN.out hNV ((Below.refl _ _).alloc (by omega) _)
                  have HB7 := Lib.hid hbi7
                  have HB8 := Lib.hid hbi8
                  obtain ⟨fo, yo, co, ho, hGo⟩ := hbi7.o
                  obtain ⟨⟨o0, o1, o2⟩, v0, v1, v2⟩ := blk3 ho
                  clear hbi7 hbi8 ho hk6 hg6
                  unfold chV
                  as_aux_lemma =>
                    go_wp2_with fail
                    all_goals
                      go_roundw
                      case rel =>
                        first
                          | exact ⟨c + 1, by omega, by omega, by go_num, HB8.out⟩
                          | exact ⟨c + 1, by omega, by omega, by go_num, (HB7.out.out hMlt HNN.out hNV _ 0 c (HGC.out _)).below hMlt HNN.out hNV ((Below.refl _ _).alloc (by simp; omega) _)⟩
                      case measure => simp [intOf]; omega
                · clear hnx g0 g1 g2 g3 n0 n1 n2 n3
                  obtain ⟨fo, yo, co, ho, hGo⟩ := hbi6.o
                  obtain ⟨⟨o0, o1, o2⟩, v0, v1, v2⟩ := blk3 ho
                  clear hbi6 ho
                  as_aux_lemma =>
                    go_wp2_with fail
                    all_goals
                      go_roundw
                      case rel =>
                        first
                          | exact ⟨c + 1, by omega, by omega, by go_num, HB6.out.out hMlt HNN.out hNV 1 0 c (HGC.out _)⟩
                          | exact ⟨c + 1, by omega, by omega, by go_num, HB6.out⟩
                      case measure => simp [intOf]; omega
            · as_aux_lemma =>
                go_wp2_with fail
                go_roundw
                case rel =>
                  exact ⟨0 + 1, 0 + 1, by omega, by go_num, by omega, HB.out⟩
                case measure => simp [intOf]
        · obtain rfl : z = 1 := by simpa using hz
          clear hz
          obtain ⟨⟨p0, p1, p2, p3⟩, _⟩ := blk4 hbi.p
          have HBI := Lib.hid hbi
          clear hbi
          go_wp2_with fail
          obtain ⟨wo, rfl⟩ : ∃ wo : World, wo = wr := ⟨_, rfl⟩
          clear p0 p1 p2 p3
          go_loopw [11, 12, 13, 14, 15, 16, 17] (fun s11 _ _ _ _ _ _ wr => ∃ c : Nat, cc + 1 ≤ c ∧ c ≤ d ∧ s11 = .int .i64 c ∧ BI w N V.heap.size M #[.int .i64 W, .int .i64 H, .slice RA R.length cr, .slice UA U.length cu] #[.int .i64 a, .int .i64 b, .int .i64 cc, .int .i64 d] ⟨a, b, cc, d⟩ wr) (fun s11 _ _ _ _ _ _ _ => d - (intOf s11).toNat)
          case atStart => exact ⟨cc + 1, by omega, by omega, by go_num, HBI.out⟩
          case round =>
            obtain ⟨c, hc1, hc2, rfl, hbi⟩ := hrel
            obtain ⟨⟨g0, g1, g2, g3⟩, _⟩ := blk4 hbi.m
            obtain ⟨⟨p0, p1, p2, p3⟩, _⟩ := blk4 hbi.p
            have hs := hbi.s
            have HB := Lib.hid hbi
            clear hbi
            by_cases hlt : c < d
            · have q1 : (c : Int) < (d : Int) := by omega
              obtain ⟨fi, fb, hfk⟩ : ∃ fi fb, fold2 R U ⟨a, b, cc, d⟩ 1 c = (fi, fb) := ⟨_, _, rfl⟩
              have hfo : ∀ w', MapOk w' RA UA R U → Calls Tryz.prog 18 #[.agg #[.int .i64 W, .int .i64 H, .slice RA R.length cr, .slice UA U.length cu], .agg #[.int .i64 a, .int .i64 b, .int .i64 cc, .int .i64 d], .int .i64 1, .int .i64 c] w' (RetBelow (.tuple #[.int .u8 (fold2 R U ⟨a, b, cc, d⟩ 1 c).1, .bool (fold2 R U ⟨a, b, cc, d⟩ 1 c).2]) w') := fun w' hm' => folds_run W H RA UA R U cr cu ⟨a, b, cc, d⟩ 1 c w' hm' HV.out HP.out (by omega) (by simp [Pt.from']; omega) (by simp [Pt.to]; omega)
              rw [hfk] at hfo
              dsimp only at hfo
              have HFO := Lib.hid hfo
              clear hfk hfo
              go_wp2_with fail
              refine (HFO.out _ (HBM.out _ HB.out)).mono ?_
              rintro e w3 ⟨rfl, hb3⟩
              have hbi3 := HB.out.below hMlt HNN.out hNV (hb3.mono (by omega))
              clear g0 g1 g2 g3 p0 p1 p2 p3
              have hs3 := hbi3.s
              have HB3 := Lib.hid hbi3
              cases fb
              · clear hbi3
                as_aux_lemma =>
                  go_wp2_with fail
                  go_roundw
                  case rel =>
                    exact ⟨c + 1, by omega, by omega, by go_num, HB3.out⟩
                  case measure => simp [intOf]; omega
              · obtain ⟨⟨g0, g1, g2, g3⟩, _⟩ := blk4 hbi3.m
                obtain ⟨⟨p0, p1, p2, p3⟩, _⟩ := blk4 hbi3.p
                obtain ⟨⟨qa, qb, qc, qd⟩, qs, hlp⟩ : ∃ q s, leftP ⟨a, b, cc, d⟩ 1 c = (q, s) := ⟨_, _, rfl⟩
                have hlf : ∀ w', Calls Tryz.prog 21 #[.agg #[.int .i64 a, .int .i64 b, .int .i64 cc, .int .i64 d], .int .i64 1, .int .i64 c] w' (RetBelow (.tuple #[(leftP ⟨a, b, cc, d⟩ 1 c).1.v, .int .u8 (leftP ⟨a, b, cc, d⟩ 1 c).2]) w') := fun w' => left_any ⟨a, b, cc, d⟩ 1 c w' (by omega) (by dsimp only; omega) (by dsimp only; omega) (by dsimp only; omega) (by dsimp only; omega) (by omega)
                have hin := leftP_in (way := 1) (c := c) HP.out (by omega) (by simp [Pt.from']; omega) (by simp [Pt.to]; omega)
                have har := leftP_area (way := 1) (c := c) HP.out (by omega) (by simp [Pt.from']; omega) (by simp [Pt.to]; omega)
                rw [hlp] at hlf hin har
                unfold Pt.v at hlf
                dsimp only at hlf hin har
                have HLF := Lib.hid hlf
                have HIN := Lib.hid hin
                have har' := Nat.le_trans har HA.out
                have HAR := Lib.hid (Nat.lt_succ_iff.1 har')
                obtain ⟨pb, hpb⟩ : ∃ pb, plainB R U ⟨qa, qb, qc, qd⟩ = pb := ⟨_, rfl⟩
                have hpl : ∀ w', MapOk w' RA UA R U → Calls Tryz.prog 23 #[.agg #[.int .i64 W, .int .i64 H, .slice RA R.length cr, .slice UA U.length cu], .agg #[.int .i64 qa, .int .i64 qb, .int .i64 qc, .int .i64 qd]] w' (RetBelow (.bool (plainB R U ⟨qa, qb, qc, qd⟩)) w') := fun w' hm' => plain_run W H RA UA R U cr cu ⟨qa, qb, qc, qd⟩ w' hm' HV.out HIN.out
                rw [hpb] at hpl
                have HPL := Lib.hid hpl
                clear hlp hlf hin har har' hpb hpl hbi3
                go_wp2_with fail
                refine (HLF.out _).mono ?_
                rintro e w4 ⟨rfl, hb4⟩
                have hbi4 := HB3.out.below hMlt HNN.out hNV (hb4.mono (by omega))
                have hs4 := hbi4.s
                have hbi5 : BI w N V.heap.size M #[.int .i64 W, .int .i64 H, .slice RA R.length cr, .slice UA U.length cu] #[.int .i64 a, .int .i64 b, .int .i64 cc, .int .i64 d] ⟨a, b, cc, d⟩ (w4.alloc (.cells #[.int .i64 qa, .int .i64 qb, .int .i64 qc, .int .i64 qd] 64)) := hbi4.below hMlt HNN.out hNV ((Below.refl _ _).alloc (by omega) _)
                clear g0 g1 g2 g3 p0 p1 p2 p3
                obtain ⟨⟨g0, g1, g2, g3⟩, _⟩ := blk4 hbi4.m
                have HB5 := Lib.hid hbi5
                have hN4 : N < w4.heap.size := by omega
                clear hbi4 hbi5
                go_wp2_with fail
                refine (HPL.out _ (HBM.out _ HB5.out)).mono ?_
                rintro e w5 ⟨rfl, hb5⟩
                have hbi6 := HB5.out.below hMlt HNN.out hNV (hb5.mono (by simp; omega))
                have hnx : w5.heap[w4.heap.size]? = some (.cells #[.int .i64 qa, .int .i64 qb, .int .i64 qc, .int .i64 qd] 64 (0, 0)) := kept hb5 (heap_alloc_new w4 _) (by simp)
                clear g0 g1 g2 g3
                have HB6 := Lib.hid hbi6
                obtain ⟨⟨g0, g1, g2, g3⟩, _⟩ := blk4 hbi6.m
                obtain ⟨⟨n0, n1, n2, n3⟩, _⟩ := blk4 hnx
                have hs6 := hbi6.s
                have HGC : Hid (∀ f : Int, GoodC ⟨a, b, cc, d⟩ f 1 c) := Lib.hid fun f => .inr ⟨1, c, rfl, rfl, by omega, by simp [Pt.from']; omega, by simp [Pt.to]; omega⟩
                cases pb
                · clear hbi6 hnx
                  go_wp2_with fail
                  refine (HI.out ⟨qa, qb, qc, qd⟩ _ HAR.out (HBM.out _ HB6.out) HIN.out HB6.out.k).mono ?_
                  rintro e w6 ⟨fx, yx, cx, rfl, hGx, hk6, hg6⟩
                  have hbi7 := HB6.out.grown hMlt hNV hg6 hk6
                  have hs7 := hbi7.s
                  clear g0 g1 g2 g3 n0 n1 n2 n3
                  have hbi8 : BI w N V.heap.size M #[.int .i64 W, .int .i64 H, .slice RA R.length cr, .slice UA U.length cu] #[.int .i64 a, .int .i64 b, .int .i64 cc, .int .i64 d] ⟨a, b, cc, d⟩ (w6.alloc (.cells #[.int .i64 fx, .int .i64 yx, .int .i64 cx] 73)) := hbi7.below hMlt HNN.out hNV ((Below.refl _ _).alloc (by omega) _)
                  have HB7 := Lib.hid hbi7
                  have HB8 := Lib.hid hbi8
                  obtain ⟨fo, yo, co, ho, hGo⟩ := hbi7.o
                  obtain ⟨⟨o0, o1, o2⟩, v0, v1, v2⟩ := blk3 ho
                  clear hbi7 hbi8 ho hk6 hg6
                  unfold chV
                  as_aux_lemma =>
                    go_wp2_with fail
                    all_goals
                      go_roundw
                      case rel =>
                        first
                          | exact ⟨c + 1, by omega, by omega, by go_num, HB8.out⟩
                          | exact ⟨c + 1, by omega, by omega, by go_num, (HB7.out.out hMlt HNN.out hNV _ 1 c (HGC.out _)).below hMlt HNN.out hNV ((Below.refl _ _).alloc (by simp; omega) _)⟩
                      case measure => simp [intOf]; omega
                · clear hnx g0 g1 g2 g3 n0 n1 n2 n3
                  obtain ⟨fo, yo, co, ho, hGo⟩ := hbi6.o
                  obtain ⟨⟨o0, o1, o2⟩, v0, v1, v2⟩ := blk3 ho
                  clear hbi6 ho
                  as_aux_lemma =>
                    go_wp2_with fail
                    all_goals
                      go_roundw
                      case rel =>
                        first
                          | exact ⟨c + 1, by omega, by omega, by go_num, HB6.out.out hMlt HNN.out hNV 1 1 c (HGC.out _)⟩
                          | exact ⟨c + 1, by omega, by omega, by go_num, HB6.out⟩
                      case measure => simp [intOf]; omega
            · as_aux_lemma =>
                go_wp2_with fail
                go_roundw
                case rel =>
                  exact ⟨1 + 1, 1 + 1, by omega, by go_num, by omega, HB.out⟩
                case measure => simp [intOf]
        · obtain rfl : z = 2 := by simpa using hz
          clear hz
          obtain ⟨⟨p0, p1, p2, p3⟩, _⟩ := blk4 hbi.p
          obtain ⟨fo, yo, co, ho, hGo⟩ := hbi.o
          obtain ⟨⟨o0, o1, o2⟩, v0, v1, v2⟩ := blk3 ho
          have HO := Lib.hid ho
          have hs := hbi.s
          have HB := Lib.hid hbi
          clear hbi ho
          as_aux_lemma =>
            go_wp2_with (at_mapUpdate; refine wpList_put_known _ rfl _ _ _ rfl M a b cc d fo yo co rfl rfl rfl HB.out.k hGo ?_; intro w9 hk9 hg9; obtain ⟨⟨o0, o1, o2⟩, v0, v1, v2⟩ := blk3 (grown_kept hg9 HO.out (by omega)); have h9r := grown_kept hg9 HB.out.r (by omega); obtain ⟨⟨r0, r1, r2⟩, y0, y1, y2⟩ := blk3 h9r; have H9R := Lib.hid h9r; clear h9r)
            obtain ⟨X, hX⟩ : ∃ X, X = ((w9.setCell ⟨N + 1 + 1, 0, none⟩ (.int .i64 fo)).setCell ⟨N + 1 + 1, 1, none⟩ (.int .i64 yo)).setCell ⟨N + 1 + 1, 2, none⟩ (.int .i64 co) := ⟨_, rfl⟩
            obtain ⟨hq, _, _⟩ := setCell3 H9R.out (.int .i64 fo) (.int .i64 yo) (.int .i64 co)
            have hbi9 := HB.out.grown hMlt hNV hg9 hk9
            have hBX : Below N w9 X := by
              rw [hX]
              exact (((Below.refl N w9).setCell (p := ⟨N + 1 + 1, 0, none⟩) (by simp; omega) (.int .i64 fo)).setCell (p := ⟨N + 1 + 1, 1, none⟩) (by simp; omega) (.int .i64 yo)).setCell (p := ⟨N + 1 + 1, 2, none⟩) (by simp; omega) (.int .i64 co)
            rw [← hX] at hq ⊢
            clear r0 r1 r2 o0 o1 o2
            obtain ⟨⟨r0, r1, r2⟩, _⟩ := blk3 hq
            exact bodyPost_ret (v := .agg #[.int .i64 fo, .int .i64 yo, .int .i64 co]) (by simp [results, Tryz.results24, go_sem, r0, r1, r2]) rfl ⟨fo, yo, co, rfl, hGo, hbi9.k.below hBX hMlt, grown_then_below HNN.out hbi9.g hBX⟩
end Go.Proofs.YtcgbdkjelbgcfaaGreatDoor
