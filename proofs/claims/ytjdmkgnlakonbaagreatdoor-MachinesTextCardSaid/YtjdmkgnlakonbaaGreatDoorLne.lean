/- The contract of cells.Line at valid cells and edges. -/
import Derived.Test.YtjdmkgnlakonbaaGreatDoorQr
namespace Go.Proofs.YtjdmkgnlakonbaaGreatDoor
open Go.RowKit

def lnR (r : (Int × Int) × Int) : Value := .tuple #[.agg #[.int .u8 r.1.1, .int .i64 r.1.2], .int .i64 r.2]
theorem lineC0_eq (x y : Int) (q e : Nat) (hq : q < 4) : lineC0 ⟨x, y, q⟩ e = if e = 1 then (3, x + y + 1) else if e = 2 then (4, y - x) else (qln q, if qln q = 2 then y + qby q else x + qby q) := by
  unfold lineC0
  dsimp only
  split
  · rfl
  · split
    · rfl
    · have h4 : q = 0 ∨ q = 1 ∨ q = 2 ∨ q = 3 := by omega
      rcases h4 with rfl | rfl | rfl | rfl <;> simp [qln, qby]
theorem qlb (q : Nat) : (qln q = 1 ∨ qln q = 2) ∧ (0 ≤ qby q ∧ qby q ≤ 1) := by
  unfold qln qby; split <;> decide

set_option maxRecDepth 100000 in
set_option maxHeartbeats 4000000 in
theorem cellLine_ok (c : Cl) (e : Nat) (w : World) (hc : c.ok = true) (he : e ≤ 2) (hQ : Qf w) :
    Calls Tryz.prog 214 #[.agg #[.int .i64 c.x, .int .i64 c.y, .int .u8 c.q], .int .u8 e] w (RetBelow (lnR (lineE c e)) w) := by
  obtain ⟨⟨⟨rk, rc⟩, re⟩, hR⟩ : ∃ R, lineE c e = R := ⟨_, rfl⟩
  rw [hR]
  unfold Cl.ok at hc
  obtain ⟨c1, c2, c3, c4, c5⟩ := okC_iff.1 hc
  obtain ⟨x, y, q⟩ := c
  dsimp only at hc c1 c2 c3 c4 c5 ⊢
  have hq : q < 4 := by omega
  unfold lineE at hR
  rw [lineC0_eq x y q e hq] at hR
  unfold lnR
  dsimp only
  have hrow := fun (w' : World) (h : Qf w') => h.row hq
  unfold rowQ at hrow
  obtain ⟨hln, hby1, hby2⟩ := qlb q
  obtain ⟨⟨u1, u2⟩, h1⟩ : ∃ z, qone q = z := ⟨_, rfl⟩
  obtain ⟨⟨v1, v2⟩, h2⟩ : ∃ z, qtwo q = z := ⟨_, rfl⟩
  obtain ⟨⟨s1, s2⟩, h3⟩ : ∃ z, qside q = z := ⟨_, rfl⟩
  obtain ⟨ln, h4⟩ : ∃ z, qln q = z := ⟨_, rfl⟩
  obtain ⟨by', h5⟩ : ∃ z, qby q = z := ⟨_, rfl⟩
  obtain ⟨⟨n1, n2, n3⟩, h6⟩ : ∃ z, nxt q 0 = z := ⟨_, rfl⟩
  obtain ⟨⟨n4, n5, n6⟩, h7⟩ : ∃ z, nxt q 1 = z := ⟨_, rfl⟩
  obtain ⟨⟨n7, n8, n9⟩, h8⟩ : ∃ z, nxt q 2 = z := ⟨_, rfl⟩
  rw [h1, h2, h3, h4, h5, h6, h7, h8] at hrow
  rw [h4] at hln hR
  rw [h5] at hby1 hby2 hR
  dsimp only at hrow
  have HC := Lib.hid hc
  have HROW := Lib.hid hrow
  have HQ := Lib.hid hQ
  have HR := Lib.hid hR
  have q1 : (q : Int) < 4 := by omega
  have q2 : ¬ (2 : Int) < (e : Int) := by omega
  have H := ((Bx.start w).new #[.int .i64 x, .int .i64 y, .int .u8 q] 90 rfl).new #[.int .u8 0, .int .i64 0] 59 (N := w.heap.size + 1) (by simp)
  clear hc hrow h1 h2 h3 h4 h5 h6 h7 h8 hQ hR
  go_enter Tryz.func214, Tryz.ntmps214
  go_upto_region 1 with fail
  obtain ⟨W, hW⟩ : ∃ W, W = (w.alloc (.cells #[.int .i64 x, .int .i64 y, .int .u8 q] 90)).alloc (.cells #[.int .u8 0, .int .i64 0] 59) := ⟨_, rfl⟩
  rw [← hW] at H ⊢
  obtain ⟨N, hN⟩ : ∃ N, N = w.heap.size := ⟨_, rfl⟩
  rw [← hN] at H ⊢
  clear hW hN
  obtain ⟨⟨a0, a1, a2⟩, _⟩ := blk3 (H.blk 0 _ _ _ rfl)
  go_wp2_with fail
  refine (cellCheck_any x y q _).mono ?_
  rintro ee w2 ⟨rfl, hb⟩
  rw [HC.out, ec_t]
  have H2 := H.call hb
  clear a0 a1 a2 hb H
  obtain ⟨⟨a0, a1, a2⟩, _⟩ := blk3 (H2.blk 0 _ _ _ rfl)
  have hr := HROW.out _ (HQ.out.below H2.below)
  go_upto_region 3 with fail
  repeat' (go_not_at_region 4; first
    | refine wpList_load_mid rfl 330 (.tmp 18) rfl 9 (q * 17) rfl _ _ hr Tryz.underlying330 rfl (by kernel_rfl) ?_
    | refine wpList_store_new rfl 330 (.tmp 6) (.tmp 19) rfl _ _ rfl rfl (by kernel_rfl) rfl rfl ?_
    | go_step)
  clear hr a0 a1 a2
  obtain ⟨G4, hG4⟩ : ∃ G, G = w2.heap.size := ⟨_, rfl⟩
  rw [← hG4]
  have H4 := H2.new #[.int .i64 s1, .int .i64 s2, .int .u8 ln, .int .i64 by', .int .i64 n1, .int .i64 n2, .int .u8 n3, .int .i64 n4, .int .i64 n5, .int .u8 n6, .int .i64 n7, .int .i64 n8, .int .u8 n9, .int .i64 u1, .int .i64 u2, .int .i64 v1, .int .i64 v2] 330 hG4.symm
  obtain ⟨W4, hW4⟩ : ∃ W, W = w2.alloc (.cells #[.int .i64 s1, .int .i64 s2, .int .u8 ln, .int .i64 by', .int .i64 n1, .int .i64 n2, .int .u8 n3, .int .i64 n4, .int .i64 n5, .int .u8 n6, .int .i64 n7, .int .i64 n8, .int .u8 n9, .int .i64 u1, .int .i64 u2, .int .i64 v1, .int .i64 v2] 330) := ⟨_, rfl⟩
  rw [← hW4] at H4
  change Code.wp _ _ _ _ (w2.alloc (.cells #[.int .i64 s1, .int .i64 s2, .int .u8 ln, .int .i64 by', .int .i64 n1, .int .i64 n2, .int .u8 n3, .int .i64 n4, .int .i64 n5, .int .u8 n6, .int .i64 n7, .int .i64 n8, .int .u8 n9, .int .i64 u1, .int .i64 u2, .int .i64 v1, .int .i64 v2] 330))
  rw [← hW4]
  have hrr := H4.range 2 rfl
  have r2 := hrr 2 _ rfl
  have r3 := hrr 3 _ rfl
  simp only [Nat.zero_add] at r2 r3
  obtain ⟨⟨a0, a1, a2⟩, _⟩ := blk3 (H4.blk 0 _ _ _ rfl)
  have w1 : IntKind.i64.wrap (x + by') = x + by' := IntWalk.i64_in _ (by omega)
  clear hrr hG4 hW4
  go_upto_region 5 with fail
  obtain ⟨G5, hG5⟩ : ∃ G, G = W4.heap.size := ⟨_, rfl⟩
  rw [← hG5]
  have H5 := H4.new #[.int .u8 ln, .int .i64 (x + by')] 59 hG5.symm
  obtain ⟨W5, hW5⟩ : ∃ W, W = W4.alloc (.cells #[.int .u8 ln, .int .i64 (x + by')] 59) := ⟨_, rfl⟩
  rw [← hW5] at H5 ⊢
  have hne1 : N ≠ G5 := by have := H4.lt 0 rfl; omega
  have hne3 : G4 ≠ G5 := by have := H4.lt 2 rfl; omega
  clear hG5 hW5 r2 r3 a0 a1 a2
  obtain ⟨⟨a0, a1, a2⟩, _⟩ := blk3 (H5.blk 0 _ _ _ rfl)
  obtain ⟨⟨b0, b1⟩, f0, f1⟩ := blk2 (H5.blk 3 _ _ _ rfl)
  have hrr := H5.range 2 rfl
  have r2 := hrr 2 _ rfl
  have r3 := hrr 3 _ rfl
  simp only [Nat.zero_add] at r2 r3
  clear hrr
  have he3 : e = 0 ∨ e = 1 ∨ e = 2 := by omega
  rcases he3 with rfl | rfl | rfl
  · rcases hln with rfl | rfl
    · as_aux_lemma =>
          go_wp2_with fail
          refine (lineCheck_any 1 (x + by') _).mono ?_
          rintro ee w6 ⟨rfl, hb6⟩
          have H7 := (H5).call hb6
          obtain ⟨⟨p0, p1⟩, _⟩ := blk2 (H7.blk 3 _ _ _ rfl)
          obtain ⟨⟨t0, t1⟩, z0, z1⟩ := blk2 (H7.blk 1 _ _ _ rfl)
          have hfin := HR.out
          clear b0 b1 f0 f1 r2 r3 a0 a1 a2 hb6
          cases hk : okL 1 (x + by')
          · rw [ec_f]
            have hv : rk = 0 ∧ rc = 0 ∧ re = 3 := by
              simp [hk] at hfin
              omega
            have HV := Lib.hid hv
            clear hk hfin hv
            go_wp2_with fail
            have H8 := (H7.set 1 0 rfl (.int .u8 0)).set 1 1 rfl (.int .i64 0)
            exact bodyPost_ret (res_cell_tmp rfl rfl (H8.range 1 rfl) Tryz.underlying59 rfl (by kernel_rfl)) rfl ⟨by rw [HV.out.1, HV.out.2.1, HV.out.2.2]; rfl, H8.below⟩
          · rw [ec_t]
            have hv : rk = 1 ∧ rc = x + by' ∧ re = 0 := by
              simp [hk] at hfin
              omega
            have HV := Lib.hid hv
            clear hk hfin hv
            go_wp2_with fail
            have H8 := (H7.set 1 0 rfl (.int .u8 1)).set 1 1 rfl (.int .i64 (x + by'))
            exact bodyPost_ret (res_cell_tmp rfl rfl (H8.range 1 rfl) Tryz.underlying59 rfl (by kernel_rfl)) rfl ⟨by rw [HV.out.1, HV.out.2.1, HV.out.2.2]; rfl, H8.below⟩
    · as_aux_lemma =>
          have w2' : IntKind.i64.wrap (y + by') = y + by' := IntWalk.i64_in _ (by omega)
          go_wp2_with fail
          refine (lineCheck_any 2 (y + by') _).mono ?_
          rintro ee w6 ⟨rfl, hb6⟩
          have H7 := ((H5.set 3 1 rfl (.int .i64 (y + by')))).call hb6
          obtain ⟨⟨p0, p1⟩, _⟩ := blk2 (H7.blk 3 _ _ _ rfl)
          obtain ⟨⟨t0, t1⟩, z0, z1⟩ := blk2 (H7.blk 1 _ _ _ rfl)
          have hfin := HR.out
          clear b0 b1 f0 f1 r2 r3 a0 a1 a2 hb6
          cases hk : okL 2 (y + by')
          · rw [ec_f]
            have hv : rk = 0 ∧ rc = 0 ∧ re = 3 := by
              simp [hk] at hfin
              omega
            have HV := Lib.hid hv
            clear hk hfin hv
            go_wp2_with fail
            have H8 := (H7.set 1 0 rfl (.int .u8 0)).set 1 1 rfl (.int .i64 0)
            exact bodyPost_ret (res_cell_tmp rfl rfl (H8.range 1 rfl) Tryz.underlying59 rfl (by kernel_rfl)) rfl ⟨by rw [HV.out.1, HV.out.2.1, HV.out.2.2]; rfl, H8.below⟩
          · rw [ec_t]
            have hv : rk = 2 ∧ rc = y + by' ∧ re = 0 := by
              simp [hk] at hfin
              omega
            have HV := Lib.hid hv
            clear hk hfin hv
            go_wp2_with fail
            have H8 := (H7.set 1 0 rfl (.int .u8 2)).set 1 1 rfl (.int .i64 (y + by'))
            exact bodyPost_ret (res_cell_tmp rfl rfl (H8.range 1 rfl) Tryz.underlying59 rfl (by kernel_rfl)) rfl ⟨by rw [HV.out.1, HV.out.2.1, HV.out.2.2]; rfl, H8.below⟩
  · as_aux_lemma =>
      have w2' : IntKind.i64.wrap (x + y) = x + y := IntWalk.i64_in _ (by omega)
      have w3' : IntKind.i64.wrap (x + y + 1) = x + y + 1 := IntWalk.i64_in _ (by omega)
      go_wp2_with fail
      refine (lineCheck_any 3 (x + y + 1) _).mono ?_
      rintro ee w6 ⟨rfl, hb6⟩
      have H7 := (((H5.set 3 0 rfl (.int .u8 3)).set 3 1 rfl (.int .i64 (x + y + 1)))).call hb6
      obtain ⟨⟨p0, p1⟩, _⟩ := blk2 (H7.blk 3 _ _ _ rfl)
      obtain ⟨⟨t0, t1⟩, z0, z1⟩ := blk2 (H7.blk 1 _ _ _ rfl)
      have hfin := HR.out
      clear b0 b1 f0 f1 r2 r3 a0 a1 a2 hb6
      cases hk : okL 3 (x + y + 1)
      · rw [ec_f]
        have hv : rk = 0 ∧ rc = 0 ∧ re = 3 := by
          simp [hk] at hfin
          omega
        have HV := Lib.hid hv
        clear hk hfin hv
        go_wp2_with fail
        have H8 := (H7.set 1 0 rfl (.int .u8 0)).set 1 1 rfl (.int .i64 0)
        exact bodyPost_ret (res_cell_tmp rfl rfl (H8.range 1 rfl) Tryz.underlying59 rfl (by kernel_rfl)) rfl ⟨by rw [HV.out.1, HV.out.2.1, HV.out.2.2]; rfl, H8.below⟩
      · rw [ec_t]
        have hv : rk = 3 ∧ rc = x + y + 1 ∧ re = 0 := by
          simp [hk] at hfin
          omega
        have HV := Lib.hid hv
        clear hk hfin hv
        go_wp2_with fail
        have H8 := (H7.set 1 0 rfl (.int .u8 3)).set 1 1 rfl (.int .i64 (x + y + 1))
        exact bodyPost_ret (res_cell_tmp rfl rfl (H8.range 1 rfl) Tryz.underlying59 rfl (by kernel_rfl)) rfl ⟨by rw [HV.out.1, HV.out.2.1, HV.out.2.2]; rfl, H8.below⟩
  · as_aux_lemma =>
      have w2' : IntKind.i64.wrap (y - x) = y - x := IntWalk.i64_in _ (by omega)
      go_wp2_with fail
      refine (lineCheck_any 4 (y - x) _).mono ?_
      rintro ee w6 ⟨rfl, hb6⟩
      have H7 := (((H5.set 3 0 rfl (.int .u8 4)).set 3 1 rfl (.int .i64 (y - x)))).call hb6
      obtain ⟨⟨p0, p1⟩, _⟩ := blk2 (H7.blk 3 _ _ _ rfl)
      obtain ⟨⟨t0, t1⟩, z0, z1⟩ := blk2 (H7.blk 1 _ _ _ rfl)
      have hfin := HR.out
      clear b0 b1 f0 f1 r2 r3 a0 a1 a2 hb6
      cases hk : okL 4 (y - x)
      · rw [ec_f]
        have hv : rk = 0 ∧ rc = 0 ∧ re = 3 := by
          simp [hk] at hfin
          omega
        have HV := Lib.hid hv
        clear hk hfin hv
        go_wp2_with fail
        have H8 := (H7.set 1 0 rfl (.int .u8 0)).set 1 1 rfl (.int .i64 0)
        exact bodyPost_ret (res_cell_tmp rfl rfl (H8.range 1 rfl) Tryz.underlying59 rfl (by kernel_rfl)) rfl ⟨by rw [HV.out.1, HV.out.2.1, HV.out.2.2]; rfl, H8.below⟩
      · rw [ec_t]
        have hv : rk = 4 ∧ rc = y - x ∧ re = 0 := by
          simp [hk] at hfin
          omega
        have HV := Lib.hid hv
        clear hk hfin hv
        go_wp2_with fail
        have H8 := (H7.set 1 0 rfl (.int .u8 4)).set 1 1 rfl (.int .i64 (y - x))
        exact bodyPost_ret (res_cell_tmp rfl rfl (H8.range 1 rfl) Tryz.underlying59 rfl (by kernel_rfl)) rfl ⟨by rw [HV.out.1, HV.out.2.1, HV.out.2.2]; rfl, H8.below⟩
end Go.Proofs.YtjdmkgnlakonbaaGreatDoor
