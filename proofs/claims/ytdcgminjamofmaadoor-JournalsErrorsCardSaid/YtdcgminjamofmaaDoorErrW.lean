/- crimplaw42.JournalsErrors returns true: the walk. -/
import Derived.Test.YtdcgminjamofmaaDoorErrL
namespace Go.Proofs.YtdcgminjamofmaaDoor
open Go.RowKit

theorem okb_six {r : Rec} (h : r.k = 6) : (!r.ok) = (decide (r.t < 0) || decide (1000000000 < r.t) || decide (r.k < 1) || decide (6 < r.k) || decide (r.j < 1) || decide (65535 < r.j) || decide (r.v < 0) || decide (16777215 < r.v) || r.v != 0) := by
  rw [Bool.eq_iff_iff]
  unfold Rec.ok
  rw [Bool.not_eq_true', ← Bool.not_eq_true, okRec_iff]
  simp
  omega
theorem okb_not {r : Rec} (h : ¬ r.k = 6) : (!r.ok) = (decide (r.t < 0) || decide (1000000000 < r.t) || decide (r.k < 1) || decide (6 < r.k) || decide (r.j < 1) || decide (65535 < r.j) || decide (r.v < 0) || decide (16777215 < r.v)) := by
  rw [Bool.eq_iff_iff]
  unfold Rec.ok
  rw [Bool.not_eq_true', ← Bool.not_eq_true, okRec_iff]
  simp
  omega

set_option maxHeartbeats 4000000 in
set_option maxRecDepth 100000 in
theorem errlaw_any (X : Option Addr) (lx : List RS) (nx cx : Nat) (r : Rec) (w : World) (s : Nat → Addr) (hS : Sent w s) (hnx : nx = lx.length) (hx : Rd w X 4 nx (rss lx)) (hfx : ∀ r ∈ lx, r.fit) (hlx : nx ≤ 9223372036854775807) (hr : r.fit) :
    Calls Tryd.prog 9 #[.agg #[.int .i64 r.t, .int .u8 r.k, .int .i64 r.j, .int .i64 r.v], .slice X nx cx] w (RetBelow (.bool true) w) := by
  have HALL := Lib.hid (ofS_all lx hfx)
  have hlen := ofS_len lx
  have HOF := Lib.hid (fun (w1 : World) (hb : Below w.heap.size w w1) => of_any X lx nx cx w1 hnx (hx.below hb) hfx hlx)
  generalize ofS lx = L at *
  clear hnx hx hfx hlx
  obtain ⟨wb, hwb⟩ : ∃ wb, wb = !r.ok := ⟨_, rfl⟩
  have HWB := Lib.hid hwb
  clear hwb
  obtain ⟨⟨t1, t2⟩, ⟨k1, k2⟩, ⟨j1, j2⟩, v1, v2⟩ := hr
  go_enter Tryd.func9, Tryd.ntmps9
  go_upto_region 2 with fail
  obtain ⟨b0, b1, b2, b3⟩ := box4 (Below.refl (w.alloc (.cells #[.int .i64 r.t, .int .u8 r.k, .int .i64 r.j, .int .i64 r.v] 37)).heap.size (w.alloc (.cells #[.int .i64 r.t, .int .u8 r.k, .int .i64 r.j, .int .i64 r.v] 37)))
  have hb0 : Below w.heap.size w (w.alloc (.cells #[.int .i64 r.t, .int .u8 r.k, .int .i64 r.j, .int .i64 r.v] 37)) := (Below.refl _ _).alloc (Nat.le_refl _) _
  have hsz : w.heap.size < (w.alloc (.cells #[.int .i64 r.t, .int .u8 r.k, .int .i64 r.j, .int .i64 r.v] 37)).heap.size := by simp
  obtain ⟨W0, hW0⟩ : ∃ W0, W0 = w.alloc (.cells #[.int .i64 r.t, .int .u8 r.k, .int .i64 r.j, .int .i64 r.v] 37) := ⟨_, rfl⟩
  rw [← hW0] at b0 b1 b2 b3 hb0 hsz ⊢
  obtain ⟨bx, hbx⟩ : ∃ bx, bx = w.heap.size := ⟨_, rfl⟩
  rw [← hbx] at b0 b1 b2 b3 hsz ⊢
  clear hW0 hbx
  go_cut [67] from 20 to 67 (fun sb wx => sb = .bool wb ∧ W0 = wx)
  case first =>
    by_cases hk6 : r.k = 6
    · have hkb : (r.k == 6) = true := by simpa using hk6
      have HK := Lib.hid hk6
      clear hk6
      go_wp2_with fail
      all_goals go_meet
      all_goals refine ⟨?_, rfl⟩
      all_goals rw [HWB.out]
      all_goals first | (rw [okb_bad (by omega)]; rfl) | rw [okb_six HK.out]
    · have hkb : (r.k == 6) = false := by simpa using hk6
      have HK := Lib.hid hk6
      clear hk6
      go_wp2_with fail
      all_goals go_meet
      all_goals refine ⟨?_, rfl⟩
      all_goals rw [HWB.out]
      all_goals first | (rw [okb_bad (by omega)]; rfl) | rw [okb_not HK.out]
  case rest =>
    obtain ⟨rfl, rfl⟩ := hcut
    go_upto_if 67 with fail
    obtain ⟨cv, hcv⟩ : ∃ cv : Int, cv = if wb then 1 else 0 := ⟨_, rfl⟩
    have HCV := Lib.hid hcv
    clear hcv
    go_cut [5] from 68 to 68 (fun s5 wx => s5 = .int .i64 cv ∧ W0 = wx)
    case first =>
      cases wb
      · go_wp2_with fail
        go_meet
        exact ⟨by rw [HCV.out]; rfl, rfl⟩
      · go_wp2_with fail
        go_meet
        exact ⟨by rw [HCV.out]; rfl, rfl⟩
    case rest =>
      obtain ⟨rfl, rfl⟩ := hcut
      go_wp2_with fail
      refine (HOF.out W0 hb0).mono ?_
      rintro e w1 ⟨v, rfl, hown, hb1⟩
      obtain ⟨A1, c1, rfl, hAn⟩ := rd_to_own_form hown
      have hbw1 : Below w.heap.size w w1 := hb0.trans (hb1.mono hb0.size)
      have HRL := Lib.hid (Rd.of_own hown)
      have d0 := below_cell hb1 b0
      have d1 := below_cell hb1 b1
      have d2 := below_cell hb1 b2
      have d3 := below_cell hb1 b3
      have hbx1 : bx < w1.heap.size := Nat.lt_of_lt_of_le hsz hb1.size
      obtain ⟨⟨vA, wA, vA', wA', ra1, ba1, ra2, oa, ba⟩, ⟨vB, wB, vB', wB', rb1, bb1, rb2, ob, bb⟩, ⟨vC, wC, vC', wC', rc1, bc1, rc2, oc, bc⟩⟩ := app_orders w1 A1 c1 L r HRL.out hAn hlen
      have RA1 := Lib.hid ra1
      have RA2 := Lib.hid ra2
      have RB1 := Lib.hid rb1
      have RB2 := Lib.hid rb2
      have RC1 := Lib.hid rc1
      have RC2 := Lib.hid rc2
      have OA := Lib.hid oa
      have OB := Lib.hid ob
      have OC := Lib.hid oc
      have ka0 := below_cell (Below.mono ba1 (Nat.le_refl _)) d0
      have ka1 := below_cell ba1 d1
      have ka2 := below_cell ba1 d2
      have ka3 := below_cell ba1 d3
      have HAn := Lib.hid hAn
      clear ra1 ra2 rb1 rb2 rc1 rc2 oa ob oc hown HOF hAn b0 b1 b2 b3
      go_upto_region 5 with fail
      go_cut [7] from 70 to 75 (fun s7 wx => wx.ownsRow w1.heap.size 37 4 s7 (L.length + 1) (recs (L ++ [r])) ∧ Below w1.heap.size w1 wx)
      case first =>
        go_region_law (first
          | (refine step_append_run (by rfl) (.tmp 70) (.tmp 71) 24 rfl _ _ (by simp [Act.eval]) (by simp [Act.eval]) _ _ RA1.out ?_)
          | (refine step_append_run (by rfl) (.tmp 70) (.tmp 71) 24 rfl _ _ (by simp [Act.eval]) (by simp [Act.eval]) _ _ RB1.out ?_)
          | (refine step_append_run (by rfl) (.tmp 70) (.tmp 71) 24 rfl _ _ (by simp [Act.eval]) (by simp [Act.eval]) _ _ RC1.out ?_)
          | (refine step_append_run (by rfl) (.tmp 72) (.tmp 74) 24 rfl _ _ (by simp [Act.eval]) (by simp [Act.eval]) _ _ RA2.out ?_)
          | (refine step_append_run (by rfl) (.tmp 72) (.tmp 74) 24 rfl _ _ (by simp [Act.eval]) (by simp [Act.eval]) _ _ RB2.out ?_)
          | (refine step_append_run (by rfl) (.tmp 72) (.tmp 74) 24 rfl _ _ (by simp [Act.eval]) (by simp [Act.eval]) _ _ RC2.out ?_))
        all_goals go_wp2_with fail
        all_goals go_meet
        all_goals first | exact ⟨OA.out, ba⟩ | exact ⟨OB.out, bb⟩ | exact ⟨OC.out, bc⟩
      case rest =>
        obtain ⟨hown, hbx2⟩ := hcut
        obtain ⟨w2, rfl⟩ : ∃ w2 : World, w2 = wc := ⟨_, rfl⟩
        obtain ⟨A2, c2, rfl, hA2n⟩ := rd_to_own_form hown
        have HRA := Lib.hid (Rd.of_own hown)
        have hbw2 : Below w.heap.size w w2 := hbw1.trans (hbx2.mono hbw1.size)
        have e0 := below_cell hbx2 d0
        have e1 := below_cell hbx2 d1
        have e2 := below_cell hbx2 d2
        have e3 := below_cell hbx2 d3
        have HRL2 := Lib.hid (HRL.out.below hbx2)
        have hbx2' : bx < w2.heap.size := Nat.lt_of_lt_of_le hbx1 hbx2.size
        have hal : (L ++ [r]).length = L.length + 1 := by simp
        have hfit : ∀ q ∈ L ++ [r], q.fit := by
          intro q hq
          rcases List.mem_append.1 hq with h | h
          · exact (HALL.out q h).1
          · rw [List.mem_singleton] at h
            subst h
            exact ⟨⟨t1, t2⟩, ⟨k1, k2⟩, ⟨j1, j2⟩, v1, v2⟩
        have hrfit : r.fit := ⟨⟨t1, t2⟩, ⟨k1, k2⟩, ⟨j1, j2⟩, v1, v2⟩
        have HFIT := Lib.hid hfit
        have HRF := Lib.hid hrfit
        have HAL := Lib.hid hal
        have hallL : L.all Rec.ok = true := by
          rw [List.all_eq_true]
          exact fun q hq => (HALL.out q hq).2
        have HALLL := Lib.hid hallL
        clear hown hA2n hfit hrfit hal hallL RA1 RA2 RB1 RB2 RC1 RC2 OA OB OC ka0 ka1 ka2 ka3 d0 d1 d2 d3 ba1 bb1 bc1 ba bb bc HRL hbx1 hsz
        go_wp2_with fail
        refine (encode_any A2 (L ++ [r]) (L.length + 1) c2 w2 HAL.out.symm HRA.out HFIT.out (by omega)).mono ?_
        intro e w3 hret
        cases hro : r.ok
        · obtain rfl : cv = 1 := by rw [HCV.out, HWB.out, hro]; rfl
          have hall : (L ++ [r]).all Rec.ok = false := by rw [List.all_append, HALLL.out]; simp [hro]
          rcases hret with ⟨h, _⟩ | ⟨_, rfl, hb3⟩
          · rw [hall] at h; cases h
          have hch : chk r.t r.k r.j r.v = 1 := by unfold chk; rw [if_neg]; unfold Rec.ok at hro; simp [hro]
          have HCH := Lib.hid hch
          have hbw3 : Below w.heap.size w w3 := hbw2.trans (hb3.mono hbw2.size)
          have f0 := below_cell hb3 e0
          have f1 := below_cell hb3 e1
          have f2 := below_cell hb3 e2
          have f3 := below_cell hb3 e3
          have HRO := Lib.hid hro
          clear hall hro e0 e1 e2 e3 hch
          go_wp2_with fail
          refine (append_any none [] 0 0 r w3 rfl Rd.nil (fun _ => rfl) (by omega) (by omega) (by omega) HRF.out).mono ?_
          rintro e w4 (⟨h, _⟩ | ⟨_, rfl, hb4⟩)
          · rw [HRO.out] at h; cases h
          have hbw4 : Below w.heap.size w w4 := hbw3.trans (hb4.mono hbw3.size)
          have g0 := below_cell hb4 f0
          have g1 := below_cell hb4 f1
          have g2 := below_cell hb4 f2
          have g3 := below_cell hb4 f3
          clear f0 f1 f2 f3
          go_wp2_with fail
          refine (merge_any none (some ⟨w4.heap.size, 0, none⟩) [] [r] 0 1 0 1 (w4.alloc (.cells #[.int .i64 r.t, .int .u8 r.k, .int .i64 r.j, .int .i64 r.v] 37)) rfl rfl Rd.nil (by rw [show recs [r] = r.cells by simp [recs]]; exact rd_new r.cells 1 4 rfl rfl) (fun _ => rfl) (by simp) (by omega) (by omega) (fun q hq => by rw [List.nil_append, List.mem_singleton] at hq; subst hq; exact HRF.out)).mono ?_
          rintro e w5 ⟨hb5, hm⟩
          have hb45 : Below w4.heap.size w4 w5 := ((Below.refl _ _).alloc (Nat.le_refl _) _).trans (hb5.mono (by simp))
          have hbw5 : Below w.heap.size w w5 := hbw4.trans (hb45.mono hbw4.size)
          have l0 := below_cell hb45 g0
          have l1 := below_cell hb45 g1
          have l2 := below_cell hb45 g2
          have l3 := below_cell hb45 g3
          have hno : ([] ++ [r]).all Rec.ok = false := by simp [HRO.out]
          rcases hm with ⟨_, rfl⟩ | ⟨h, _⟩ | ⟨h, _⟩
          rotate_left
          · rw [hno] at h; cases h
          · rw [hno] at h; cases h
          clear hno g0 g1 g2 g3
          go_wp2_with fail
          refine (check_any r.t r.k r.j r.v w5 k1 k2).mono ?_
          rintro e w6 ⟨rfl, hb6⟩
          rw [HCH.out]
          have hbw6 : Below w.heap.size w w6 := hbw5.trans (hb6.mono hbw5.size)
          have hb25 : Below w2.heap.size w2 w5 := (hb3.trans (hb4.mono hb3.size)).trans (hb45.mono (Nat.le_trans hb3.size hb4.size))
          have hb26 : Below w2.heap.size w2 w6 := hb25.trans (hb6.mono hb25.size)
          have m0 := below_cell hb6 l0
          have m1 := below_cell hb6 l1
          have m2 := below_cell hb6 l2
          have m3 := below_cell hb6 l3
          clear l0 l1 l2 l3 HCH
          go_wp2_with fail
          refine (replay_any A1 L L.length c1 w6 s rfl (HRL2.out.below hb26) (fun q hq => (HALL.out q hq).1) (by omega) (hS.below hbw6)).mono ?_
          rintro e w7 ⟨B7, d7, rfl, hown7, hb7⟩
          obtain ⟨⟨la, na, ea⟩, hra⟩ : ∃ x, replay L = x := ⟨_, rfl⟩
          rw [hra] at hown7 ⊢
          dsimp only at hown7 ⊢
          have hbw7 : Below w.heap.size w w7 := hbw6.trans (hb7.mono hbw6.size)
          have hb27 : Below w2.heap.size w2 w7 := hb26.trans (hb7.mono hb26.size)
          have HRAE := Lib.hid hra
          have hbd := (replayS_bd [] 0 0 L).2
          have hrd : replay L = replayS [] 0 0 L := rfl
          rw [← hrd, hra] at hbd
          dsimp only at hbd
          clear hown7 hra hrd
          go_wp2_with fail
          refine (replay_any A2 (L ++ [r]) (L.length + 1) c2 w7 s HAL.out.symm (HRA.out.below hb27) HFIT.out (by omega) (hS.below hbw7)).mono ?_
          rintro e w8 ⟨B8, d8, rfl, hown8, hb8⟩
          have hlaw := errs_law L r
          obtain ⟨⟨lb, nb, eb⟩, hrb⟩ : ∃ x, replay (L ++ [r]) = x := ⟨_, rfl⟩
          rw [hrb] at hown8 hlaw ⊢
          rw [HRAE.out] at hlaw
          dsimp only at hown8 hlaw ⊢
          have hbw8 : Below w.heap.size w w8 := hbw7.trans (hb8.mono hbw7.size)
          have hbd2 := (replayS_bd [] 0 0 (L ++ [r])).2
          have hrd : replay (L ++ [r]) = replayS [] 0 0 (L ++ [r]) := rfl
          rw [← hrd, hrb, HAL.out] at hbd2
          dsimp only at hbd2
          obtain ⟨law1, law2, law3⟩ := hlaw
          have LAW1 := Lib.hid law1
          have LAW2 := Lib.hid law2
          have LAW3 := Lib.hid law3
          have HSW8 := Lib.hid (hS.below hbw8)
          have HRL8 := Lib.hid ((HRL2.out.below hb27).below hb8)
          have n0 := below_cell hb8 (below_cell hb7 m0)
          have n1 := below_cell hb8 (below_cell hb7 m1)
          have n2 := below_cell hb8 (below_cell hb7 m2)
          have n3 := below_cell hb8 (below_cell hb7 m3)
          clear hown8 hrb hrd law1 law2 law3 HRAE m0 m1 m2 m3
          by_cases hn : na < L.length
          · have hn' : (na : Int) < (L.length : Int) := by omega
            obtain rfl : nb = na := LAW1.out hn
            go_wp2_with fail
            refine (lives_any _ s HSW8.out).mono ?_
            rintro e w9 ⟨rfl, hb9⟩
            have hbw9 : Below w.heap.size w w9 := hbw8.trans (hb9.mono hbw8.size)
            go_wp2_with fail
            go_ret
            exact ⟨rfl, hbw9⟩
          · have hn' : ¬ (na : Int) < (L.length : Int) := by omega
            have hfin := LAW2.out hn (.inl HRO.out)
            simp only [Prod.mk.injEq] at hfin
            obtain ⟨rfl, rfl⟩ := hfin
            go_wp2_with fail
            go_quiet (fail)
            go_wp2_with fail
            refine (lives_any _ s (HSW8.out.below (below_drewN (Below.refl _ _) _))).mono ?_
            rintro e w9 ⟨rfl, hb9⟩
            have hbw9 : Below w.heap.size w w9 := (below_drewN hbw8 _).trans (hb9.mono hbw8.size)
            go_wp2_with fail
            go_ret
            exact ⟨rfl, hbw9⟩
        · obtain rfl : cv = 0 := by rw [HCV.out, HWB.out, hro]; rfl
          have hall : (L ++ [r]).all Rec.ok = true := by rw [List.all_append, HALLL.out]; simp [hro]
          rcases hret with ⟨_, gE, rfl, _, hb3⟩ | ⟨h, _⟩
          rotate_left
          · rw [hall] at h; cases h
          have hch : chk r.t r.k r.j r.v = 0 := by unfold chk; rw [if_pos]; exact hro
          have HCH := Lib.hid hch
          have hbw3 : Below w.heap.size w w3 := hbw2.trans (hb3.mono hbw2.size)
          have f0 := below_cell hb3 e0
          have f1 := below_cell hb3 e1
          have f2 := below_cell hb3 e2
          have f3 := below_cell hb3 e3
          have HRO := Lib.hid hro
          clear hall hro e0 e1 e2 e3 hch
          go_wp2_with fail
          refine (append_any none [] 0 0 r w3 rfl Rd.nil (fun _ => rfl) (by omega) (by omega) (by omega) HRF.out).mono ?_
          rintro e w4 (⟨_, A4, rfl, _, hb4⟩ | ⟨h, _⟩)
          rotate_left
          · rw [HRO.out] at h; cases h
          have hbw4 : Below w.heap.size w w4 := hbw3.trans (hb4.mono hbw3.size)
          have g0 := below_cell hb4 f0
          have g1 := below_cell hb4 f1
          have g2 := below_cell hb4 f2
          have g3 := below_cell hb4 f3
          clear f0 f1 f2 f3
          go_wp2_with fail
          refine (merge_any none (some ⟨w4.heap.size, 0, none⟩) [] [r] 0 1 0 1 (w4.alloc (.cells #[.int .i64 r.t, .int .u8 r.k, .int .i64 r.j, .int .i64 r.v] 37)) rfl rfl Rd.nil (by rw [show recs [r] = r.cells by simp [recs]]; exact rd_new r.cells 1 4 rfl rfl) (fun _ => rfl) (by simp) (by omega) (by omega) (fun q hq => by rw [List.nil_append, List.mem_singleton] at hq; subst hq; exact HRF.out)).mono ?_
          rintro e w5 ⟨hb5, hm⟩
          have hb45 : Below w4.heap.size w4 w5 := ((Below.refl _ _).alloc (Nat.le_refl _) _).trans (hb5.mono (by simp))
          have hbw5 : Below w.heap.size w w5 := hbw4.trans (hb45.mono hbw4.size)
          have l0 := below_cell hb45 g0
          have l1 := below_cell hb45 g1
          have l2 := below_cell hb45 g2
          have l3 := below_cell hb45 g3
          have hno : ([] ++ [r]).all Rec.ok = true := by simp [HRO.out]
          rcases hm with ⟨h, _⟩ | ⟨_, h, _⟩ | ⟨_, _, _, A5, rfl, _⟩
          · rw [hno] at h; cases h
          · exact absurd ⟨List.Pairwise.nil, asc_one r⟩ h
          clear hno g0 g1 g2 g3
          go_wp2_with fail
          refine (check_any r.t r.k r.j r.v w5 k1 k2).mono ?_
          rintro e w6 ⟨rfl, hb6⟩
          rw [HCH.out]
          have hbw6 : Below w.heap.size w w6 := hbw5.trans (hb6.mono hbw5.size)
          have hb25 : Below w2.heap.size w2 w5 := (hb3.trans (hb4.mono hb3.size)).trans (hb45.mono (Nat.le_trans hb3.size hb4.size))
          have hb26 : Below w2.heap.size w2 w6 := hb25.trans (hb6.mono hb25.size)
          have m0 := below_cell hb6 l0
          have m1 := below_cell hb6 l1
          have m2 := below_cell hb6 l2
          have m3 := below_cell hb6 l3
          clear l0 l1 l2 l3 HCH
          go_wp2_with fail
          refine (replay_any A1 L L.length c1 w6 s rfl (HRL2.out.below hb26) (fun q hq => (HALL.out q hq).1) (by omega) (hS.below hbw6)).mono ?_
          rintro e w7 ⟨B7, d7, rfl, hown7, hb7⟩
          obtain ⟨⟨la, na, ea⟩, hra⟩ : ∃ x, replay L = x := ⟨_, rfl⟩
          rw [hra] at hown7 ⊢
          dsimp only at hown7 ⊢
          have hbw7 : Below w.heap.size w w7 := hbw6.trans (hb7.mono hbw6.size)
          have hb27 : Below w2.heap.size w2 w7 := hb26.trans (hb7.mono hb26.size)
          have HRAE := Lib.hid hra
          have hbd := (replayS_bd [] 0 0 L).2
          have hrd : replay L = replayS [] 0 0 L := rfl
          rw [← hrd, hra] at hbd
          dsimp only at hbd
          clear hown7 hra hrd
          go_wp2_with fail
          refine (replay_any A2 (L ++ [r]) (L.length + 1) c2 w7 s HAL.out.symm (HRA.out.below hb27) HFIT.out (by omega) (hS.below hbw7)).mono ?_
          rintro e w8 ⟨B8, d8, rfl, hown8, hb8⟩
          have hlaw := errs_law L r
          obtain ⟨⟨lb, nb, eb⟩, hrb⟩ : ∃ x, replay (L ++ [r]) = x := ⟨_, rfl⟩
          rw [hrb] at hown8 hlaw ⊢
          rw [HRAE.out] at hlaw
          dsimp only at hown8 hlaw ⊢
          have hbw8 : Below w.heap.size w w8 := hbw7.trans (hb8.mono hbw7.size)
          have hbd2 := (replayS_bd [] 0 0 (L ++ [r])).2
          have hrd : replay (L ++ [r]) = replayS [] 0 0 (L ++ [r]) := rfl
          rw [← hrd, hrb, HAL.out] at hbd2
          dsimp only at hbd2
          obtain ⟨law1, law2, law3⟩ := hlaw
          have LAW1 := Lib.hid law1
          have LAW2 := Lib.hid law2
          have LAW3 := Lib.hid law3
          have HSW8 := Lib.hid (hS.below hbw8)
          have HRL8 := Lib.hid ((HRL2.out.below hb27).below hb8)
          have n0 := below_cell hb8 (below_cell hb7 m0)
          have n1 := below_cell hb8 (below_cell hb7 m1)
          have n2 := below_cell hb8 (below_cell hb7 m2)
          have n3 := below_cell hb8 (below_cell hb7 m3)
          clear hown8 hrb hrd law1 law2 law3 HRAE m0 m1 m2 m3
          by_cases hn : na < L.length
          · have hn' : (na : Int) < (L.length : Int) := by omega
            obtain rfl : nb = na := LAW1.out hn
            go_wp2_with fail
            refine (lives_any _ s HSW8.out).mono ?_
            rintro e w9 ⟨rfl, hb9⟩
            have hbw9 : Below w.heap.size w w9 := hbw8.trans (hb9.mono hbw8.size)
            go_wp2_with fail
            go_ret
            exact ⟨rfl, hbw9⟩
          · have hn' : ¬ (na : Int) < (L.length : Int) := by omega
            by_cases hL : 0 < L.length
            · have hL' : decide ((0 : Int) < (L.length : Int)) = true := by simp; omega
              have hlt := lastT_get 0 hL
              obtain ⟨b9, o9, hA9, hb9l, c90, _⟩ := rd_rec HRL8.out (L.length - 1) (by omega)
              obtain ⟨x, hx⟩ : ∃ x, L[L.length - 1] = x := ⟨_, rfl⟩
              rw [hx] at hlt c90
              subst hA9
              obtain ⟨q, hq⟩ : ∃ q, q = L.length - 1 := ⟨_, rfl⟩
              rw [← hq] at c90
              have q1 : IntKind.i64.wrap ((L.length : Int) - 1) = (q : Int) := by rw [IntWalk.i64_in _ (by omega)]; omega
              have q1' : (L.length : Int) - 1 = (q : Int) := by omega
              have q1'' : IntKind.i64.wrap (q : Int) = (q : Int) := IntWalk.i64_in _ (by omega)
              have q2 : (q : Int) < (L.length : Int) := by omega
              have q3 : (0 : Int) ≤ (q : Int) := by omega
              by_cases hcmp : r.t < x.t
              · have hd : decide (r.t < x.t) = true := by simpa using hcmp
                have hfin := LAW2.out hn (.inr (by rw [hlt]; exact hcmp))
                simp only [Prod.mk.injEq] at hfin
                obtain ⟨rfl, rfl⟩ := hfin
                clear hlt hx hq hcmp
                go_wp2_with fail
                go_quiet (fail)
                clear q1 q1' q1''
                go_wp2_with fail
                refine (lives_any _ s (HSW8.out.below (below_drewN (Below.refl _ _) _))).mono ?_
                rintro e w9 ⟨rfl, hb9⟩
                have hbw9 : Below w.heap.size w w9 := (below_drewN hbw8 _).trans (hb9.mono hbw8.size)
                go_wp2_with fail
                go_ret
                exact ⟨rfl, hbw9⟩
              · have hd : decide (r.t < x.t) = false := by simpa using hcmp
                have hfin := LAW3.out hn (fun h => by
                  rcases h with h | h
                  · rw [HRO.out] at h; cases h
                  · rw [hlt] at h; exact hcmp h)
                have HFIN := Lib.hid hfin
                clear hlt hx hq hcmp hfin
                by_cases hz : eb = 0
                · have z1 : nb = L.length + 1 := HFIN.out.1.1 hz
                  subst hz
                  subst z1
                  go_wp2_with fail
                  go_quiet (fail)
                  clear q1 q1' q1''
                  go_wp2_with fail
                  refine (lives_any _ s (HSW8.out.below (below_drewN (Below.refl _ _) _))).mono ?_
                  rintro e w9 ⟨rfl, hb9⟩
                  have hbw9 : Below w.heap.size w w9 := (below_drewN hbw8 _).trans (hb9.mono hbw8.size)
                  go_wp2_with fail
                  go_ret
                  exact ⟨rfl, hbw9⟩
                · have z1 : ¬ nb = L.length + 1 := fun h => hz (HFIN.out.1.2 h)
                  have z2 : (eb == 0) = false := by simpa using hz
                  have z3 : ((nb : Int) == (L.length : Int) + 1) = false := by simp; omega
                  have z4 : (eb != 1) = true := by simpa using HFIN.out.2
                  clear hz z1
                  go_wp2_with fail
                  go_quiet (fail)
                  clear q1 q1' q1''
                  go_wp2_with fail
                  refine (lives_any _ s (HSW8.out.below (below_drewN (Below.refl _ _) _))).mono ?_
                  rintro e w9 ⟨rfl, hb9⟩
                  have hbw9 : Below w.heap.size w w9 := (below_drewN hbw8 _).trans (hb9.mono hbw8.size)
                  go_wp2_with fail
                  go_ret
                  exact ⟨rfl, hbw9⟩
            · have hL0 : L.length = 0 := by omega
              have hLn : L = [] := List.length_eq_zero_iff.1 hL0
              have hL' : decide ((0 : Int) < (L.length : Int)) = false := by simp; omega
              have hfin := LAW3.out hn (fun h => by
                rcases h with h | h
                · rw [HRO.out] at h; cases h
                · rw [hLn] at h
                  have h0 : r.t < 0 := h
                  have := okRec_iff.1 HRO.out
                  omega)
              have HFIN := Lib.hid hfin
              clear hL0 hLn hfin
              by_cases hz : eb = 0
              · have z1 : nb = L.length + 1 := HFIN.out.1.1 hz
                subst hz
                subst z1
                go_wp2_with fail
                go_quiet (fail)
                go_wp2_with fail
                refine (lives_any _ s (HSW8.out.below (below_drewN (Below.refl _ _) _))).mono ?_
                rintro e w9 ⟨rfl, hb9⟩
                have hbw9 : Below w.heap.size w w9 := (below_drewN hbw8 _).trans (hb9.mono hbw8.size)
                go_wp2_with fail
                go_ret
                exact ⟨rfl, hbw9⟩
              · have z1 : ¬ nb = L.length + 1 := fun h => hz (HFIN.out.1.2 h)
                have z2 : (eb == 0) = false := by simpa using hz
                have z3 : ((nb : Int) == (L.length : Int) + 1) = false := by simp; omega
                have z4 : (eb != 1) = true := by simpa using HFIN.out.2
                clear hz z1
                go_wp2_with fail
                go_quiet (fail)
                go_wp2_with fail
                refine (lives_any _ s (HSW8.out.below (below_drewN (Below.refl _ _) _))).mono ?_
                rintro e w9 ⟨rfl, hb9⟩
                have hbw9 : Below w.heap.size w w9 := (below_drewN hbw8 _).trans (hb9.mono hbw8.size)
                go_wp2_with fail
                go_ret
                exact ⟨rfl, hbw9⟩
end Go.Proofs.YtdcgminjamofmaaDoor
