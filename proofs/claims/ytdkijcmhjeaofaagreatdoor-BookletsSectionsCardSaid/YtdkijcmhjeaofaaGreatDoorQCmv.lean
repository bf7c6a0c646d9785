/- Joined texts. Contracts of package moves: limited, Flips, Then, Point, Of. · Contracts of package moves: Of, Point; Then at moves that may not be valid. · Contracts of package cells: order, Compare, middle; of cmp.Compare at ints. · The whole table cells.quarters; the contract of cells.Corners. · The contract of cells.Move at valid moves and cells, out of one of cells.moved. -/
import Derived.Test.YtdkijcmhjeaofaaGreatDoorQSp2
import Derived.Deep.WholeRow
namespace Go.Proofs.YtdkijcmhjeaofaaGreatDoor
open Go.RowKit

def mvR (r : Mv × Int) : Value := .tuple #[r.1.v, .int .i64 r.2]

set_option maxHeartbeats 1000000 in
theorem limited_any (t : Nat) (x y : Int) (w : World) (ht : t ≤ 255) : Calls Tryz.prog 161 #[.agg #[.int .u8 t, .int .i64 x, .int .i64 y]] w (RetBelow (mvR (limM ⟨t, x, y⟩)) w) := by
  obtain ⟨R, hR⟩ : ∃ R, limM ⟨t, x, y⟩ = R := ⟨_, rfl⟩
  rw [hR]
  have HR := Lib.hid hR
  have HC := Lib.hid (show 0 ≤ (t : Int) ∧ (t : Int) ≤ 255 by omega)
  have H := ((Bx.start w).new #[.int .u8 t, .int .i64 x, .int .i64 y] 68 rfl).new #[.int .u8 0, .int .i64 0, .int .i64 0] 68 (N := w.heap.size + 1) (by simp)
  clear hR
  go_enter Tryz.func161, Tryz.ntmps161
  go_upto_region 1 with fail
  obtain ⟨W, hW⟩ : ∃ W, W = (w.alloc (.cells #[.int .u8 t, .int .i64 x, .int .i64 y] 68)).alloc (.cells #[.int .u8 0, .int .i64 0, .int .i64 0] 68) := ⟨_, rfl⟩
  rw [← hW] at H ⊢
  obtain ⟨N, hN⟩ : ∃ N, N = w.heap.size := ⟨_, rfl⟩
  rw [← hN] at H ⊢
  clear hW hN
  obtain ⟨⟨a0, a1, a2⟩, _⟩ := blk3 (H.blk 0 _ _ _ rfl)
  go_wp2_with fail
  refine (moveCheck_any t x y _ HC.out).mono ?_
  rintro e w2 ⟨rfl, hb⟩
  have H2 := H.call hb
  obtain ⟨⟨b0, b1, b2⟩, _⟩ := blk3 (H2.blk 0 _ _ _ rfl)
  obtain ⟨⟨c0, c1, c2⟩, d0, d1, d2⟩ := blk3 (H2.blk 1 _ _ _ rfl)
  clear a0 a1 a2 hb H
  cases hk : okM t x y
  · have hfin : R = (mv0, 3) := by rw [← HR.out]; unfold limM Mv.ok; rw [hk]; rfl
    rw [ec_f]
    clear hk
    go_wp2_with fail
    have H3 := ((H2.set 1 0 rfl (.int .u8 0)).set 1 1 rfl (.int .i64 0)).set 1 2 rfl (.int .i64 0)
    exact bodyPost_ret (res_cell_tmp rfl rfl (H3.range 1 rfl) Tryz.underlying68 rfl (by kernel_rfl)) rfl ⟨by rw [hfin]; rfl, H3.below⟩
  · have hfin : R = (⟨t, x, y⟩, 0) := by rw [← HR.out]; unfold limM Mv.ok; rw [hk]; rfl
    rw [ec_t]
    clear hk
    go_wp2_with fail
    have H3 := ((H2.set 1 0 rfl (.int .u8 t)).set 1 1 rfl (.int .i64 x)).set 1 2 rfl (.int .i64 y)
    exact bodyPost_ret (res_cell_tmp rfl rfl (H3.range 1 rfl) Tryz.underlying68 rfl (by kernel_rfl)) rfl ⟨by rw [hfin]; rfl, H3.below⟩

set_option maxHeartbeats 1000000 in
theorem flips_any (m : Mv) (w : World) (ht : m.t ≤ 255) : Calls Tryz.prog 164 #[.agg #[.int .u8 m.t, .int .i64 m.x, .int .i64 m.y]] w (RetBelow (.bool (flipsM m)) w) := by
  obtain ⟨R, hR⟩ : ∃ R, flipsM m = R := ⟨_, rfl⟩
  rw [hR]
  have HR := Lib.hid hR
  obtain ⟨t, x, y⟩ := m
  dsimp only at ht ⊢
  have HC := Lib.hid (show 0 ≤ (t : Int) ∧ (t : Int) ≤ 255 by omega)
  have H := (Bx.start w).new #[.int .u8 t, .int .i64 x, .int .i64 y] 68 rfl
  clear hR
  go_enter Tryz.func164, Tryz.ntmps164
  go_upto_region 1 with fail
  obtain ⟨W, hW⟩ : ∃ W, W = w.alloc (.cells #[.int .u8 t, .int .i64 x, .int .i64 y] 68) := ⟨_, rfl⟩
  rw [← hW] at H ⊢
  obtain ⟨N, hN⟩ : ∃ N, N = w.heap.size := ⟨_, rfl⟩
  rw [← hN] at H ⊢
  clear hW hN
  obtain ⟨⟨a0, a1, a2⟩, _⟩ := blk3 (H.blk 0 _ _ _ rfl)
  go_wp2_with fail
  refine (moveCheck_any t x y _ HC.out).mono ?_
  rintro e w2 ⟨rfl, hb⟩
  have H2 := H.call hb
  obtain ⟨⟨b0, b1, b2⟩, _⟩ := blk3 (H2.blk 0 _ _ _ rfl)
  clear a0 a1 a2 hb H
  cases hk : okM t x y
  · have hfin : R = false := by rw [← HR.out]; unfold flipsM Mv.ok; rw [hk]; rfl
    rw [ec_f]
    clear hk
    go_wp2_with fail
    go_ret
    exact ⟨by subst hfin; first | rfl | simp, H2.below⟩
  · have hfin : R = decide (4 ≤ t) := by rw [← HR.out]; unfold flipsM Mv.ok; rw [hk]; rfl
    have HF := Lib.hid hfin
    rw [ec_t]
    clear hk hfin
    by_cases h4 : 4 ≤ t
    · have h4' : (4 : Int) ≤ t := by omega
      go_wp2_with fail
      go_ret
      exact ⟨ret_bool (by rw [HF.out, decide_eq_true h4]; first | done | (simp; done) | (simp; omega)), H2.below⟩
    · have h4' : ¬ (4 : Int) ≤ t := by omega
      go_wp2_with fail
      go_ret
      exact ⟨ret_bool (by rw [HF.out, decide_eq_false h4]; first | done | (simp; done) | (simp; omega)), H2.below⟩

theorem matThen_num (s t : Nat) (hs : s < 8) (ht : t < 8) : matNum (matThen (mat s) (mat t)) < 8 ∧ matThen (mat s) (mat t) = mat (matNum (matThen (mat s) (mat t))) := by
  have : ∀ s < 8, ∀ t < 8, matNum (matThen (mat s) (mat t)) < 8 ∧ matThen (mat s) (mat t) = mat (matNum (matThen (mat s) (mat t))) := by decide
  exact this s hs t ht
theorem Mv.ok_iff {m : Mv} : m.ok = true ↔ m.t < 8 ∧ (-16384 ≤ m.x ∧ m.x ≤ 16384) ∧ (-16384 ≤ m.y ∧ m.y ≤ 16384) ∧ (m.x + m.y) % 2 = 0 := by
  unfold Mv.ok; rw [okM_iff]; omega

theorem cell_set {w : World} {P b o j : Nat} {v x : Value} (hne : b ≠ P) (h : w.cell? ⟨b, o, none⟩ = some v) : (w.setCell ⟨P, j, none⟩ x).cell? ⟨b, o, none⟩ = some v := by
  rw [World.cell?_setCell_other _ _ _ _ (by simp)]; exact h
theorem cell_set3 {w : World} {P b o i j k : Nat} {v x y z : Value} (hne : b ≠ P) (h : w.cell? ⟨b, o, none⟩ = some v) : (((w.setCell ⟨P, i, none⟩ x).setCell ⟨P, j, none⟩ y).setCell ⟨P, k, none⟩ z).cell? ⟨b, o, none⟩ = some v :=
  cell_set hne (cell_set hne (cell_set hne h))

set_option maxRecDepth 100000 in
set_option maxHeartbeats 4000000 in
theorem then_ok (m n : Mv) (w : World) (hm : m.ok = true) (hn : n.ok = true) (hT : Tn w) :
    Calls Tryz.prog 104 #[.agg #[.int .u8 m.t, .int .i64 m.x, .int .i64 m.y], .agg #[.int .u8 n.t, .int .i64 n.x, .int .i64 n.y]] w (RetBelow (mvR (thenM m n)) w) := by
  obtain ⟨⟨⟨rt, rx, ry⟩, re⟩, hR⟩ : ∃ R, thenM m n = R := ⟨_, rfl⟩
  rw [hR]
  obtain ⟨m1, ⟨m2, m3⟩, ⟨m4, m5⟩, _⟩ := Mv.ok_iff.1 hm
  obtain ⟨n1, ⟨n2, n3⟩, ⟨n4, n5⟩, _⟩ := Mv.ok_iff.1 hn
  obtain ⟨k1, k2⟩ := matThen_num m.t n.t m1 n1
  obtain ⟨t, x, y⟩ := m
  obtain ⟨u, p, q⟩ := n
  dsimp only at m1 m2 m3 m4 m5 n1 n2 n3 n4 n5 k1 k2 ⊢
  have hOf := fun w => of_any u x y w (by omega) (by omega)
  have hTh := fun w => then_any t u w
  obtain ⟨⟨ob1, ob2⟩, ob3, ob4⟩ := matOf_bd u (x := x) (y := y) (B := 16384) (by omega) (by omega)
  unfold thenM at hR
  dsimp only at hR
  obtain ⟨r, hr⟩ : ∃ r, matNum (matThen (mat t) (mat u)) = r := ⟨_, rfl⟩
  rw [hr] at k1 k2 hR
  rw [k2] at hTh
  obtain ⟨⟨sx, sy⟩, hs⟩ : ∃ s, matOf (mat u) x y = s := ⟨_, rfl⟩
  rw [hs] at hOf hR ob1 ob2 ob3 ob4
  dsimp only at hOf hR ob1 ob2 ob3 ob4
  obtain ⟨⟨a1, a2, a3, a4⟩, hat⟩ : ∃ z, mat t = z := ⟨_, rfl⟩
  obtain ⟨⟨b1, b2, b3, b4⟩, hau⟩ : ∃ z, mat u = z := ⟨_, rfl⟩
  have hct := fun (w' : World) (h : Tn w') => h.at' t m1
  have hcu := fun (w' : World) (h : Tn w') => h.at' u n1
  rw [hat] at hTh hct
  rw [hau] at hOf hTh hcu
  have hnum := fun w h => number_any r k1 w h
  obtain ⟨⟨c1, c2, c3, c4⟩, har⟩ : ∃ z, mat r = z := ⟨_, rfl⟩
  rw [har] at hnum
  unfold matV at hTh
  rw [har] at hTh
  dsimp only at hTh hct hcu hOf hnum
  have hlim := fun w => limited_any r (sx + p) (sy + q) w (by omega)
  rw [hR] at hlim
  have e1 : okM t x y = true := hm
  have e2 : okM u p q = true := hn
  have E1 := Lib.hid e1
  have E2 := Lib.hid e2
  have HOF := Lib.hid hOf
  have HTH := Lib.hid hTh
  have HCT := Lib.hid hct
  have HCU := Lib.hid hcu
  have HNUM := Lib.hid hnum
  have HLIM := Lib.hid hlim
  have B1 := Lib.hid (show 0 ≤ (t : Int) ∧ (t : Int) ≤ 255 by omega)
  have B2 := Lib.hid (show 0 ≤ (u : Int) ∧ (u : Int) ≤ 255 by omega)
  have w1 : IntKind.i64.wrap (sx + p) = sx + p := IntWalk.i64_in _ (by omega)
  have w2' : IntKind.i64.wrap (sy + q) = sy + q := IntWalk.i64_in _ (by omega)
  have q1 : (t : Int) < 8 := by omega
  have q2 : (u : Int) < 8 := by omega
  have H := (((Bx.start w).new #[.int .u8 t, .int .i64 x, .int .i64 y] 68 rfl).new #[.int .u8 u, .int .i64 p, .int .i64 q] 68 (N := w.heap.size + 1) (by simp)).new #[.int .u8 0, .int .i64 0, .int .i64 0] 68 (N := w.heap.size + 2) (by simp)
  have HT := Lib.hid hT
  clear hR hOf hTh hct hcu hnum hlim e1 e2 hm hn hs hr hat hau har k2 hT
  go_enter Tryz.func104, Tryz.ntmps104
  go_upto_region 1 with fail
  obtain ⟨W, hW⟩ : ∃ W, W = ((w.alloc (.cells #[.int .u8 t, .int .i64 x, .int .i64 y] 68)).alloc (.cells #[.int .u8 u, .int .i64 p, .int .i64 q] 68)).alloc (.cells #[.int .u8 0, .int .i64 0, .int .i64 0] 68) := ⟨_, rfl⟩
  rw [← hW] at H ⊢
  obtain ⟨N, hN⟩ : ∃ N, N = w.heap.size := ⟨_, rfl⟩
  rw [← hN] at H ⊢
  obtain ⟨P, hP⟩ : ∃ P, P = N + 2 := ⟨_, rfl⟩
  rw [← hP] at H
  rw [show N + 1 + 1 = P from hP.symm]
  have hne1 : N ≠ P := by omega
  have hne2 : N + 1 ≠ P := by omega
  have hne3 : 0 ≠ P := by have := HT.out.lt; omega
  clear hW hN hP
  obtain ⟨⟨f0, f1, f2⟩, _⟩ := blk3 (H.blk 0 _ _ _ rfl)
  obtain ⟨⟨g0, g1, g2⟩, _⟩ := blk3 (H.blk 1 _ _ _ rfl)
  go_wp2_with fail
  refine (moveCheck_any t x y _ B1.out).mono ?_
  rintro e w2 ⟨rfl, hb⟩
  rw [E1.out, ec_t]
  have H2 := H.call hb
  clear f0 f1 f2 g0 g1 g2 hb H
  obtain ⟨⟨f0, f1, f2⟩, _⟩ := blk3 (H2.blk 0 _ _ _ rfl)
  obtain ⟨⟨g0, g1, g2⟩, _⟩ := blk3 (H2.blk 1 _ _ _ rfl)
  go_wp2_with fail
  refine (moveCheck_any u p q _ B2.out).mono ?_
  rintro e w3 ⟨rfl, hb⟩
  rw [E2.out, ec_t]
  have H3 := H2.call hb
  clear f0 f1 f2 g0 g1 g2 hb H2
  obtain ⟨⟨f0, f1, f2⟩, _⟩ := blk3 (H3.blk 0 _ _ _ rfl)
  obtain ⟨⟨g0, g1, g2⟩, _⟩ := blk3 (H3.blk 1 _ _ _ rfl)
  have HT3 := HT.out.below H3.below
  obtain ⟨u0, u1, u2, u3⟩ := HCU.out _ HT3
  go_upto_region 3 with fail
  go_region_held3 (fun w' => w'.cell? ⟨N, 1, none⟩ = some (.int .i64 x) ∧ w'.cell? ⟨N, 2, none⟩ = some (.int .i64 y) ∧ w'.cell? ⟨N + 1, 0, none⟩ = some (.int .u8 u) ∧ w'.cell? ⟨0, u * 4, none⟩ = some (.int .i64 b1) ∧ w'.cell? ⟨0, u * 4 + 1, none⟩ = some (.int .i64 b2) ∧ w'.cell? ⟨0, u * 4 + 2, none⟩ = some (.int .i64 b3) ∧ w'.cell? ⟨0, u * 4 + 3, none⟩ = some (.int .i64 b4))
    (first | exact ⟨f1, f2, g0, u0, u1, u2, u3⟩ | go_keep)
    (first | (go_at_call 160; (with_reducible refine (HOF.out _).mono ?_); rintro e w4 ⟨rfl, hb4⟩; have H3 := H3.call (undrew hb4); have f1 := below_cell (undrew hb4) f1; have f2 := below_cell (undrew hb4) f2; have g0 := below_cell (undrew hb4) g0; have u0 := below_cell (undrew hb4) u0; have u1 := below_cell (undrew hb4) u1; have u2 := below_cell (undrew hb4) u2; have u3 := below_cell (undrew hb4) u3) | fail)
  have HT4 := HT.out.below H3.below
  obtain ⟨v0, v1, v2, v3⟩ := HCT.out _ HT4
  obtain ⟨u0, u1, u2, u3⟩ := HCU.out _ HT4
  clear f0 f1 f2 g0 g1 g2
  obtain ⟨⟨f0, f1, f2⟩, _⟩ := blk3 (H3.blk 0 _ _ _ rfl)
  obtain ⟨⟨g0, g1, g2⟩, _⟩ := blk3 (H3.blk 1 _ _ _ rfl)
  obtain ⟨_, z0, z1, z2⟩ := blk3 (H3.blk 2 _ _ _ rfl)
  clear HT3
  go_upto_region 4 with fail
  go_region_held3 (fun w' => w'.cell? ⟨N, 0, none⟩ = some (.int .u8 t) ∧ w'.cell? ⟨N + 1, 0, none⟩ = some (.int .u8 u) ∧ w'.cell? ⟨N + 1, 1, none⟩ = some (.int .i64 p) ∧ w'.cell? ⟨N + 1, 2, none⟩ = some (.int .i64 q) ∧ w'.cell? ⟨0, t * 4, none⟩ = some (.int .i64 a1) ∧ w'.cell? ⟨0, t * 4 + 1, none⟩ = some (.int .i64 a2) ∧ w'.cell? ⟨0, t * 4 + 2, none⟩ = some (.int .i64 a3) ∧ w'.cell? ⟨0, t * 4 + 3, none⟩ = some (.int .i64 a4) ∧ w'.cell? ⟨0, u * 4, none⟩ = some (.int .i64 b1) ∧ w'.cell? ⟨0, u * 4 + 1, none⟩ = some (.int .i64 b2) ∧ w'.cell? ⟨0, u * 4 + 2, none⟩ = some (.int .i64 b3) ∧ w'.cell? ⟨0, u * 4 + 3, none⟩ = some (.int .i64 b4))
    (first | exact ⟨f0, g0, g1, g2, v0, v1, v2, v3, u0, u1, u2, u3⟩ | exact ⟨cell_set3 hne1 f0, cell_set3 hne2 g0, cell_set3 hne2 g1, cell_set3 hne2 g2, cell_set3 hne3 v0, cell_set3 hne3 v1, cell_set3 hne3 v2, cell_set3 hne3 v3, cell_set3 hne3 u0, cell_set3 hne3 u1, cell_set3 hne3 u2, cell_set3 hne3 u3⟩ | go_keep)
    (first
      | (go_at_call 163; (with_reducible refine (HTH.out _).mono ?_); rintro e w5 ⟨rfl, hb5⟩; have H3 := H3.call (undrew hb5); have HT4 := HT4.below (undrew hb5); have f0 := below_cell (undrew hb5) f0; have g0 := below_cell (undrew hb5) g0; have g1 := below_cell (undrew hb5) g1; have g2 := below_cell (undrew hb5) g2; have v0 := below_cell (undrew hb5) v0; have v1 := below_cell (undrew hb5) v1; have v2 := below_cell (undrew hb5) v2; have v3 := below_cell (undrew hb5) v3; have u0 := below_cell (undrew hb5) u0; have u1 := below_cell (undrew hb5) u1; have u2 := below_cell (undrew hb5) u2; have u3 := below_cell (undrew hb5) u3)
      | (go_at_call 162; (with_reducible refine (HNUM.out _ HT4).mono ?_); rintro e w6 ⟨rfl, hb6⟩; have H3 := H3.call hb6; have f0 := below_cell hb6 f0; have g0 := below_cell hb6 g0; have g1 := below_cell hb6 g1; have g2 := below_cell hb6 g2; have v0 := below_cell hb6 v0; have v1 := below_cell hb6 v1; have v2 := below_cell hb6 v2; have v3 := below_cell hb6 v3; have u0 := below_cell hb6 u0; have u1 := below_cell hb6 u1; have u2 := below_cell hb6 u2; have u3 := below_cell hb6 u3)
      | (go_at_call 161; (with_reducible refine (HLIM.out _).mono ?_); rintro e w7 ⟨rfl, hb7⟩; unfold mvR Mv.v; dsimp only; have H3 := H3.call hb7; obtain ⟨⟨y0, y1, y2⟩, z0, z1, z2⟩ := blk3 (H3.blk 2 _ _ _ rfl); have f0 := below_cell hb7 f0; have g0 := below_cell hb7 g0; have g1 := below_cell hb7 g1; have g2 := below_cell hb7 g2; have v0 := below_cell hb7 v0; have v1 := below_cell hb7 v1; have v2 := below_cell hb7 v2; have v3 := below_cell hb7 v3; have u0 := below_cell hb7 u0; have u1 := below_cell hb7 u1; have u2 := below_cell hb7 u2; have u3 := below_cell hb7 u3)
      | fail)
  go_wp2_with fail
  have H5 := ((H3.set 2 0 rfl (.int .u8 rt)).set 2 1 rfl (.int .i64 rx)).set 2 2 rfl (.int .i64 ry)
  exact bodyPost_ret (res_cell_tmp rfl rfl (H5.range 2 rfl) Tryz.underlying68 rfl (by kernel_rfl)) rfl ⟨rfl, H5.below⟩
end Go.Proofs.YtdkijcmhjeaofaaGreatDoor
namespace Go.Proofs.YtdkijcmhjeaofaaGreatDoor
open Go.RowKit

set_option maxRecDepth 100000 in
set_option maxHeartbeats 4000000 in
theorem moveOf_any (k c : Int) (w : World) (hk0 : 0 ≤ k) : Calls Tryz.prog 100 #[.agg #[.int .u8 k, .int .i64 c]] w (RetBelow (mvR (moveL (k, c))) w) := by
  obtain ⟨R, hR⟩ : ∃ R, moveL (k, c) = R := ⟨_, rfl⟩
  rw [hR]
  have HR := Lib.hid hR
  have H := ((Bx.start w).new #[.int .u8 k, .int .i64 c] 48 rfl).new #[.int .u8 0, .int .i64 0, .int .i64 0] 68 (N := w.heap.size + 1) (by simp)
  clear hR
  go_enter Tryz.func100, Tryz.ntmps100
  go_upto_region 1 with fail
  obtain ⟨W, hW⟩ : ∃ W, W = (w.alloc (.cells #[.int .u8 k, .int .i64 c] 48)).alloc (.cells #[.int .u8 0, .int .i64 0, .int .i64 0] 68) := ⟨_, rfl⟩
  rw [← hW] at H ⊢
  obtain ⟨N, hN⟩ : ∃ N, N = w.heap.size := ⟨_, rfl⟩
  rw [← hN] at H ⊢
  clear hW hN
  obtain ⟨⟨a0, a1⟩, _⟩ := blk2 (H.blk 0 _ _ _ rfl)
  go_wp2_with fail
  refine (lineCheck_any k c _).mono ?_
  rintro e w2 ⟨rfl, hb⟩
  have H2 := H.call hb
  clear a0 a1 hb H
  obtain ⟨⟨a0, a1⟩, _⟩ := blk2 (H2.blk 0 _ _ _ rfl)
  obtain ⟨⟨c0, c1, c2⟩, d0, d1, d2⟩ := blk3 (H2.blk 1 _ _ _ rfl)
  cases hL : okL k c
  · have hfin : R = (mv0, 1) := by rw [← HR.out]; unfold moveL; rw [hL]; rfl
    rw [ec_f]
    clear hL
    go_wp2_with fail
    have H3 := ((H2.set 1 0 rfl (.int .u8 0)).set 1 1 rfl (.int .i64 0)).set 1 2 rfl (.int .i64 0)
    exact bodyPost_ret (res_cell_tmp rfl rfl (H3.range 1 rfl) Tryz.underlying68 rfl (by kernel_rfl)) rfl ⟨by rw [hfin]; rfl, H3.below⟩
  · obtain ⟨l1, l2, l3, l4⟩ := okL_iff.1 hL
    have hfin : R = (ofL k c, 0) := by rw [← HR.out]; unfold moveL; rw [hL]; rfl
    have HF := Lib.hid hfin
    rw [ec_t]
    clear hL hfin
    have h4 : k = 1 ∨ k = 2 ∨ k = 3 ∨ k = 4 := by omega
    rcases h4 with rfl | rfl | rfl | rfl
    · go_wp2_with fail
      have H3 := ((H2.set 1 0 rfl (.int .u8 4)).set 1 1 rfl (.int .i64 (2 * c))).set 1 2 rfl (.int .i64 0)
      exact bodyPost_ret (res_cell_tmp rfl rfl (H3.range 1 rfl) Tryz.underlying68 rfl (by kernel_rfl)) rfl ⟨by rw [HF.out]; rfl, H3.below⟩
    · go_wp2_with fail
      have H3 := ((H2.set 1 0 rfl (.int .u8 6)).set 1 1 rfl (.int .i64 0)).set 1 2 rfl (.int .i64 (2 * c))
      exact bodyPost_ret (res_cell_tmp rfl rfl (H3.range 1 rfl) Tryz.underlying68 rfl (by kernel_rfl)) rfl ⟨by rw [HF.out]; rfl, H3.below⟩
    · go_wp2_with fail
      have H3 := ((H2.set 1 0 rfl (.int .u8 5)).set 1 1 rfl (.int .i64 c)).set 1 2 rfl (.int .i64 c)
      exact bodyPost_ret (res_cell_tmp rfl rfl (H3.range 1 rfl) Tryz.underlying68 rfl (by kernel_rfl)) rfl ⟨by rw [HF.out]; rfl, H3.below⟩
    · have wn : IntKind.i64.wrap (-c) = -c := IntWalk.i64_in _ (by omega)
      go_wp2_with fail
      have H3 := ((H2.set 1 0 rfl (.int .u8 7)).set 1 1 rfl (.int .i64 (-c))).set 1 2 rfl (.int .i64 c)
      exact bodyPost_ret (res_cell_tmp rfl rfl (H3.range 1 rfl) Tryz.underlying68 rfl (by kernel_rfl)) rfl ⟨by rw [HF.out]; rfl, H3.below⟩

set_option maxHeartbeats 2000000 in
theorem then_no (m n : Mv) (w : World) (hm : m.t ≤ 255) (hn : n.t ≤ 255) (h : (m.ok && n.ok) = false) :
    Calls Tryz.prog 104 #[.agg #[.int .u8 m.t, .int .i64 m.x, .int .i64 m.y], .agg #[.int .u8 n.t, .int .i64 n.x, .int .i64 n.y]] w (RetBelow (mvR (mv0, 1)) w) := by
  obtain ⟨t, x, y⟩ := m
  obtain ⟨u, p, q⟩ := n
  dsimp only at hm hn ⊢
  unfold Mv.ok at h
  dsimp only at h
  have HH := Lib.hid h
  have B1 := Lib.hid (show 0 ≤ (t : Int) ∧ (t : Int) ≤ 255 by omega)
  have B2 := Lib.hid (show 0 ≤ (u : Int) ∧ (u : Int) ≤ 255 by omega)
  have H := (((Bx.start w).new #[.int .u8 t, .int .i64 x, .int .i64 y] 68 rfl).new #[.int .u8 u, .int .i64 p, .int .i64 q] 68 (N := w.heap.size + 1) (by simp)).new #[.int .u8 0, .int .i64 0, .int .i64 0] 68 (N := w.heap.size + 2) (by simp)
  clear h
  go_enter Tryz.func104, Tryz.ntmps104
  go_upto_region 1 with fail
  obtain ⟨W, hW⟩ : ∃ W, W = ((w.alloc (.cells #[.int .u8 t, .int .i64 x, .int .i64 y] 68)).alloc (.cells #[.int .u8 u, .int .i64 p, .int .i64 q] 68)).alloc (.cells #[.int .u8 0, .int .i64 0, .int .i64 0] 68) := ⟨_, rfl⟩
  rw [← hW] at H ⊢
  obtain ⟨N, hN⟩ : ∃ N, N = w.heap.size := ⟨_, rfl⟩
  rw [← hN] at H ⊢
  obtain ⟨P, hP⟩ : ∃ P, P = N + 2 := ⟨_, rfl⟩
  rw [← hP] at H
  rw [show N + 1 + 1 = P from hP.symm]
  clear hW hN hP
  obtain ⟨⟨f0, f1, f2⟩, _⟩ := blk3 (H.blk 0 _ _ _ rfl)
  go_wp2_with fail
  refine (moveCheck_any t x y _ B1.out).mono ?_
  rintro e w2 ⟨rfl, hb⟩
  have H2 := H.call hb
  clear f0 f1 f2 hb H
  obtain ⟨⟨g0, g1, g2⟩, _⟩ := blk3 (H2.blk 1 _ _ _ rfl)
  cases h1 : okM t x y
  · rw [ec_f]
    clear h1
    obtain ⟨⟨c0, c1, c2⟩, d0, d1, d2⟩ := blk3 (H2.blk 2 _ _ _ rfl)
    go_wp2_with fail
    have H3 := ((H2.set 2 0 rfl (.int .u8 0)).set 2 1 rfl (.int .i64 0)).set 2 2 rfl (.int .i64 0)
    exact bodyPost_ret (res_cell_tmp rfl rfl (H3.range 2 rfl) Tryz.underlying68 rfl (by kernel_rfl)) rfl ⟨rfl, H3.below⟩
  · have h2 : okM u p q = false := by have := HH.out; rw [h1] at this; simpa using this
    have HB := Lib.hid h2
    rw [ec_t]
    clear h1 h2
    go_wp2_with fail
    refine (moveCheck_any u p q _ B2.out).mono ?_
    rintro e w3 ⟨rfl, hb⟩
    rw [HB.out, ec_f]
    have H3 := H2.call hb
    clear g0 g1 g2 hb H2
    obtain ⟨⟨c0, c1, c2⟩, d0, d1, d2⟩ := blk3 (H3.blk 2 _ _ _ rfl)
    go_wp2_with fail
    have H4 := ((H3.set 2 0 rfl (.int .u8 0)).set 2 1 rfl (.int .i64 0)).set 2 2 rfl (.int .i64 0)
    exact bodyPost_ret (res_cell_tmp rfl rfl (H4.range 2 rfl) Tryz.underlying68 rfl (by kernel_rfl)) rfl ⟨rfl, H4.below⟩
theorem thenG_any (m n : Mv) (w : World) (hm : m.t ≤ 255) (hn : n.t ≤ 255) (hT : Tn w) :
    Calls Tryz.prog 104 #[.agg #[.int .u8 m.t, .int .i64 m.x, .int .i64 m.y], .agg #[.int .u8 n.t, .int .i64 n.x, .int .i64 n.y]] w (RetBelow (mvR (thenG m n)) w) := by
  unfold thenG
  cases h : (m.ok && n.ok)
  · exact then_no m n w hm hn h
  · obtain ⟨h1, h2⟩ := Bool.and_eq_true_iff.1 h
    exact then_ok m n w h1 h2 hT

def ptR (x y e : Int) : Value := .tuple #[.agg #[.int .i64 x, .int .i64 y], .int .i64 e]

set_option maxRecDepth 100000 in
set_option maxHeartbeats 4000000 in
/-- A valid move moves a point that is not too far away. -/
theorem point_ok (m : Mv) (p q : Int) (w : World) (hm : m.ok = true) (hp : -10000 ≤ p ∧ p ≤ 10000) (hq : -10000 ≤ q ∧ q ≤ 10000) (hT : Tn w) :
    Calls Tryz.prog 240 #[.agg #[.int .u8 m.t, .int .i64 m.x, .int .i64 m.y], .agg #[.int .i64 p, .int .i64 q]] w (RetBelow (ptR (pointM m p q).1 (pointM m p q).2 0) w) := by
  obtain ⟨⟨X, Y⟩, hR⟩ : ∃ R, pointM m p q = R := ⟨_, rfl⟩
  rw [hR]
  dsimp only
  obtain ⟨m1, ⟨m2, m3⟩, ⟨m4, m5⟩, _⟩ := Mv.ok_iff.1 hm
  obtain ⟨t, x, y⟩ := m
  dsimp only at m1 m2 m3 m4 m5 ⊢
  have hOf := fun w => of_any t p q w (by omega) (by omega)
  obtain ⟨⟨ob1, ob2⟩, ob3, ob4⟩ := matOf_bd t (x := p) (y := q) (B := 10000) hp hq
  unfold pointM at hR
  dsimp only at hR
  obtain ⟨⟨sx, sy⟩, hs⟩ : ∃ s, matOf (mat t) p q = s := ⟨_, rfl⟩
  rw [hs] at hOf hR ob1 ob2 ob3 ob4
  dsimp only at hOf hR ob1 ob2 ob3 ob4
  obtain ⟨rfl, rfl⟩ : X = sx + 2 * x ∧ Y = sy + 2 * y := by simp at hR; omega
  obtain ⟨⟨a1, a2, a3, a4⟩, hat⟩ : ∃ z, mat t = z := ⟨_, rfl⟩
  have hct := fun (w' : World) (h : Tn w') => h.at' t m1
  rw [hat] at hOf hct
  dsimp only at hct hOf
  have e1 : okM t x y = true := hm
  have e2 : okP p q = true := okP_iff.2 (by omega)
  have e3 : okP (sx + 2 * x) (sy + 2 * y) = true := okP_iff.2 (by omega)
  have E1 := Lib.hid e1
  have E2 := Lib.hid e2
  have E3 := Lib.hid e3
  have HOF := Lib.hid hOf
  have HCT := Lib.hid hct
  have B1 := Lib.hid (show 0 ≤ (t : Int) ∧ (t : Int) ≤ 255 by omega)
  have q1 : (t : Int) < 8 := by omega
  have H := (((Bx.start w).new #[.int .u8 t, .int .i64 x, .int .i64 y] 68 rfl).new #[.int .i64 p, .int .i64 q] 311 (N := w.heap.size + 1) (by simp)).new #[.int .i64 0, .int .i64 0] 311 (N := w.heap.size + 2) (by simp)
  have HT := Lib.hid hT
  clear hR hOf hct e1 e2 e3 hm hs hat hT
  go_enter Tryz.func240, Tryz.ntmps240
  go_upto_region 1 with fail
  obtain ⟨W, hW⟩ : ∃ W, W = ((w.alloc (.cells #[.int .u8 t, .int .i64 x, .int .i64 y] 68)).alloc (.cells #[.int .i64 p, .int .i64 q] 311)).alloc (.cells #[.int .i64 0, .int .i64 0] 311) := ⟨_, rfl⟩
  rw [← hW] at H ⊢
  obtain ⟨N, hN⟩ : ∃ N, N = w.heap.size := ⟨_, rfl⟩
  rw [← hN] at H ⊢
  obtain ⟨P, hP⟩ : ∃ P, P = N + 2 := ⟨_, rfl⟩
  rw [← hP] at H
  rw [show N + 1 + 1 = P from hP.symm]
  clear hW hN hP
  obtain ⟨⟨f0, f1, f2⟩, _⟩ := blk3 (H.blk 0 _ _ _ rfl)
  go_wp2_with fail
  refine (moveCheck_any t x y _ B1.out).mono ?_
  rintro e w2 ⟨rfl, hb⟩
  rw [E1.out, ec_t]
  have H2 := H.call hb
  clear f0 f1 f2 hb H
  obtain ⟨⟨g0, g1⟩, _⟩ := blk2 (H2.blk 1 _ _ _ rfl)
  go_wp2_with fail
  refine (checkPoint_any p q _).mono ?_
  rintro e w3 ⟨rfl, hb⟩
  rw [E2.out, ec_t]
  have H3 := H2.call hb
  clear g0 g1 hb H2
  obtain ⟨⟨f0, f1, f2⟩, _⟩ := blk3 (H3.blk 0 _ _ _ rfl)
  obtain ⟨⟨g0, g1⟩, _⟩ := blk2 (H3.blk 1 _ _ _ rfl)
  have HT3 := HT.out.below H3.below
  obtain ⟨v0, v1, v2, v3⟩ := HCT.out _ HT3
  go_upto_region 3 with fail
  go_region_held3 (fun w' => w'.cell? ⟨N, 0, none⟩ = some (.int .u8 t) ∧ w'.cell? ⟨N + 1, 0, none⟩ = some (.int .i64 p) ∧ w'.cell? ⟨N + 1, 1, none⟩ = some (.int .i64 q) ∧ w'.cell? ⟨0, t * 4, none⟩ = some (.int .i64 a1) ∧ w'.cell? ⟨0, t * 4 + 1, none⟩ = some (.int .i64 a2) ∧ w'.cell? ⟨0, t * 4 + 2, none⟩ = some (.int .i64 a3) ∧ w'.cell? ⟨0, t * 4 + 3, none⟩ = some (.int .i64 a4))
    (first | exact ⟨f0, g0, g1, v0, v1, v2, v3⟩ | go_keep)
    (first | (go_at_call 160; (with_reducible refine (HOF.out _).mono ?_); rintro e w4 ⟨rfl, hb4⟩; have H3 := H3.call (undrew hb4); have f0 := below_cell (undrew hb4) f0; have g0 := below_cell (undrew hb4) g0; have g1 := below_cell (undrew hb4) g1; have v0 := below_cell (undrew hb4) v0; have v1 := below_cell (undrew hb4) v1; have v2 := below_cell (undrew hb4) v2; have v3 := below_cell (undrew hb4) v3) | fail)
  clear f0 f1 f2 g0 g1 v0 v1 v2 v3 HT3
  obtain ⟨⟨f0, f1, f2⟩, _⟩ := blk3 (H3.blk 0 _ _ _ rfl)
  have H4 := H3.new #[.int .i64 (sx + 2 * x), .int .i64 (sy + 2 * y)] 311 rfl
  have k1 : IntKind.i64.wrap (2 * x) = 2 * x := IntWalk.i64_in _ (by omega)
  have k2 : IntKind.i64.wrap (2 * y) = 2 * y := IntWalk.i64_in _ (by omega)
  have k3 : IntKind.i64.wrap (sx + 2 * x) = sx + 2 * x := IntWalk.i64_in _ (by omega)
  have k4 : IntKind.i64.wrap (sy + 2 * y) = sy + 2 * y := IntWalk.i64_in _ (by omega)
  go_wp2_with fail
  refine (checkPoint_any _ _ _).mono ?_
  rintro e w5 ⟨rfl, hb⟩
  rw [E3.out, ec_t]
  have H5 := H4.call hb
  clear f0 f1 f2 hb
  obtain ⟨⟨c0, c1⟩, d0, d1⟩ := blk2 (H5.blk 2 _ _ _ rfl)
  obtain ⟨⟨b0, b1⟩, _⟩ := blk2 (H5.blk 3 _ _ _ rfl)
  go_wp2_with fail
  have H6 := (H5.set 2 0 rfl (.int .i64 (sx + 2 * x))).set 2 1 rfl (.int .i64 (sy + 2 * y))
  exact bodyPost_ret (res_cell_tmp rfl rfl (H6.range 2 rfl) Tryz.underlying311 rfl (by kernel_rfl)) rfl ⟨rfl, H6.below⟩
end Go.Proofs.YtdkijcmhjeaofaaGreatDoor
namespace Go.Proofs.YtdkijcmhjeaofaaGreatDoor
open Go.RowKit

set_option maxHeartbeats 1000000 in
theorem cmpInt_any (a b : Int) (w : World) : Calls Tryz.prog 20 #[.int .i64 a, .int .i64 b] w (RetBelow (.int .i64 (cmpI a b)) w) := by
  obtain ⟨R, hR⟩ : ∃ R, cmpI a b = R := ⟨_, rfl⟩
  rw [hR]
  have HR := Lib.hid hR
  clear hR
  go_enter Tryz.func20, Tryz.ntmps20
  go_wp2_with (go_in)
  all_goals go_ret
  all_goals refine ⟨ret_int ?_, Below.refl _ _⟩
  all_goals rw [← HR.out]
  all_goals first | rw [cmpI_lt (by omega)] | rw [cmpI_gt (by omega)] | rw [cmpI_eq (by omega) (by omega)]

/-- The first number that is not 0. -/
def firstNz (p q r : Int) : Int := if p ≠ 0 then p else if q ≠ 0 then q else r
set_option maxRecDepth 100000 in
set_option maxHeartbeats 4000000 in
theorem order3_any (g cp : Nat) (a0 b0 a1 b1 a2 b2 : Int) (w : World) (h : w.rangeAt g 0 [.int .i64 a0, .int .i64 b0, .int .i64 a1, .int .i64 b1, .int .i64 a2, .int .i64 b2]) :
    Calls Tryz.prog 195 #[.slice (some ⟨g, 0, none⟩) 3 cp] w (RetBelow (.int .i64 (firstNz (cmpI a0 b0) (cmpI a1 b1) (cmpI a2 b2))) w) := by
  obtain ⟨p, hp⟩ : ∃ p, cmpI a0 b0 = p := ⟨_, rfl⟩
  obtain ⟨q, hq⟩ : ∃ q, cmpI a1 b1 = q := ⟨_, rfl⟩
  obtain ⟨r, hr⟩ : ∃ r, cmpI a2 b2 = r := ⟨_, rfl⟩
  rw [hp, hq, hr]
  have P := Lib.hid hp
  have Q := Lib.hid hq
  have R := Lib.hid hr
  have c0 := h 0 _ rfl
  have c1 := h 1 _ rfl
  have c2 := h 2 _ rfl
  have c3 := h 3 _ rfl
  have c4 := h 4 _ rfl
  have c5 := h 5 _ rfl
  simp only [Nat.reduceAdd] at c0 c1 c2 c3 c4 c5
  have hgl : g < w.heap.size := World.block_lt_of_cell? w ⟨g, 0, none⟩ c0
  clear hp hq hr h
  go_enter Tryz.func195, Tryz.ntmps195
  go_wp2_with fail
  go_loopw [8] (fun i wr => ∃ k : Nat, k ≤ 3 ∧ i = .int .i64 k ∧ Below w.heap.size w wr ∧ (1 ≤ k → p = 0) ∧ (2 ≤ k → q = 0) ∧ (k = 3 → r = 0)) (fun i _ => 3 - (intOf i).toNat)
  case atStart => exact ⟨0, by omega, rfl, Below.refl _ _, by omega, by omega, by omega⟩
  case round =>
    obtain ⟨k, hk, rfl, hb, h1, h2, h3⟩ := hrel
    have c0 := below_cell hb c0
    have c1 := below_cell hb c1
    have c2 := below_cell hb c2
    have c3 := below_cell hb c3
    have c4 := below_cell hb c4
    have c5 := below_cell hb c5
    have hgl : g < wr.heap.size := Nat.lt_of_lt_of_le hgl hb.size
    have hs := hb.size
    have h4 : k = 0 ∨ k = 1 ∨ k = 2 ∨ k = 3 := by omega
    rcases h4 with rfl | rfl | rfl | rfl
    · as_aux_lemma =>
        by_cases hz : p = 0
        · go_wp2_with fail
          refine (cmpInt_any a0 b0 _).mono ?_
          rintro e w2 ⟨rfl, hb2⟩
          rw [P.out]
          have hb3 : Below w.heap.size w w2 := (hb.alloc hs _).trans (hb2.mono (by simp; omega))
          have hz' : (p != 0) = false := by simpa using hz
          go_wp2_with fail
          exact ⟨⟨1, by omega, rfl, hb3, fun _ => hz, by omega, by omega⟩, by simp [intOf]⟩
        · go_wp2_with fail
          refine (cmpInt_any a0 b0 _).mono ?_
          rintro e w2 ⟨rfl, hb2⟩
          rw [P.out]
          have hb3 : Below w.heap.size w w2 := (hb.alloc hs _).trans (hb2.mono (by simp; omega))
          have hz' : (p != 0) = true := by simpa using hz
          go_wp2_with fail
          go_ret
          exact ⟨ret_int (by unfold firstNz; rw [if_pos hz]), hb3⟩
    · as_aux_lemma =>
        have hp0 := h1 (by omega)
        by_cases hz : q = 0
        · go_wp2_with fail
          refine (cmpInt_any a1 b1 _).mono ?_
          rintro e w2 ⟨rfl, hb2⟩
          rw [Q.out]
          have hb3 : Below w.heap.size w w2 := (hb.alloc hs _).trans (hb2.mono (by simp; omega))
          have hz' : (q != 0) = false := by simpa using hz
          go_wp2_with fail
          exact ⟨⟨2, by omega, rfl, hb3, fun _ => hp0, fun _ => hz, by omega⟩, by simp [intOf]⟩
        · go_wp2_with fail
          refine (cmpInt_any a1 b1 _).mono ?_
          rintro e w2 ⟨rfl, hb2⟩
          rw [Q.out]
          have hb3 : Below w.heap.size w w2 := (hb.alloc hs _).trans (hb2.mono (by simp; omega))
          have hz' : (q != 0) = true := by simpa using hz
          go_wp2_with fail
          go_ret
          exact ⟨ret_int (by unfold firstNz; rw [if_neg (by simpa using hp0), if_pos hz]), hb3⟩
    · as_aux_lemma =>
        have hp0 := h1 (by omega)
        have hq0 := h2 (by omega)
        by_cases hz : r = 0
        · go_wp2_with fail
          refine (cmpInt_any a2 b2 _).mono ?_
          rintro e w2 ⟨rfl, hb2⟩
          rw [R.out]
          have hb3 : Below w.heap.size w w2 := (hb.alloc hs _).trans (hb2.mono (by simp; omega))
          have hz' : (r != 0) = false := by simpa using hz
          go_wp2_with fail
          exact ⟨⟨3, by omega, rfl, hb3, fun _ => hp0, fun _ => hq0, fun _ => hz⟩, by simp [intOf]⟩
        · go_wp2_with fail
          refine (cmpInt_any a2 b2 _).mono ?_
          rintro e w2 ⟨rfl, hb2⟩
          rw [R.out]
          have hb3 : Below w.heap.size w w2 := (hb.alloc hs _).trans (hb2.mono (by simp; omega))
          have hz' : (r != 0) = true := by simpa using hz
          go_wp2_with fail
          go_ret
          exact ⟨ret_int (by unfold firstNz; rw [if_neg (by simpa using hp0), if_neg (by simpa using hq0)]), hb3⟩
    · as_aux_lemma =>
        have hp0 := h1 (by omega)
        have hq0 := h2 (by omega)
        have hr0 := h3 rfl
        go_wp2_with fail
        go_ret
        exact ⟨ret_int (by first | rfl | simp [firstNz, hp0, hq0, hr0]), hb⟩

set_option maxHeartbeats 1000000 in
theorem compare_any (c d : Cl) (w : World) (hc : c.q ≤ 255) (hd : d.q ≤ 255) : Calls Tryz.prog 145 #[.agg #[.int .i64 c.x, .int .i64 c.y, .int .u8 c.q], .agg #[.int .i64 d.x, .int .i64 d.y, .int .u8 d.q]] w (RetBelow (.int .i64 (cmpC c d)) w) := by
  have hfin : cmpC c d = firstNz (cmpI c.y d.y) (cmpI c.x d.x) (cmpI c.q d.q) := rfl
  rw [hfin]
  obtain ⟨x, y, q⟩ := c
  obtain ⟨x', y', q'⟩ := d
  dsimp only at hc hd ⊢
  have k1 : IntKind.i64.wrap (q : Int) = q := IntWalk.i64_in _ (by omega)
  have k2 : IntKind.i64.wrap (q' : Int) = q' := IntWalk.i64_in _ (by omega)
  have H := ((Bx.start w).new #[.int .i64 x, .int .i64 y, .int .u8 q] 111 rfl).new #[.int .i64 x', .int .i64 y', .int .u8 q'] 111 (N := w.heap.size + 1) (by simp)
  clear hfin
  go_enter Tryz.func145, Tryz.ntmps145
  go_upto_region 1 with fail
  obtain ⟨W, hW⟩ : ∃ W, W = (w.alloc (.cells #[.int .i64 x, .int .i64 y, .int .u8 q] 111)).alloc (.cells #[.int .i64 x', .int .i64 y', .int .u8 q'] 111) := ⟨_, rfl⟩
  rw [← hW] at H ⊢
  obtain ⟨N, hN⟩ : ∃ N, N = w.heap.size := ⟨_, rfl⟩
  rw [← hN] at H ⊢
  clear hW hN
  obtain ⟨⟨a0, a1, a2⟩, _⟩ := blk3 (H.blk 0 _ _ _ rfl)
  obtain ⟨⟨b0, b1, b2⟩, _⟩ := blk3 (H.blk 1 _ _ _ rfl)
  go_wp2_with fail
  have H3 := H.new #[.int .i64 y, .int .i64 y', .int .i64 x, .int .i64 x', .int .i64 q, .int .i64 q'] 36 rfl
  refine (order3_any W.heap.size 3 y y' x x' q q' _ (H3.range 2 rfl)).mono ?_
  rintro e w2 ⟨rfl, hb⟩
  have H4 := H3.call hb
  clear a0 a1 a2 b0 b1 b2
  go_wp2_with fail
  go_ret
  exact ⟨rfl, H4.below⟩

set_option maxHeartbeats 1000000 in
theorem middle_any (c : Cl) (w : World) (hx : -5000 ≤ c.x ∧ c.x ≤ 5000) (hy : -5000 ≤ c.y ∧ c.y ≤ 5000) : Calls Tryz.prog 239 #[.agg #[.int .i64 c.x, .int .i64 c.y, .int .u8 c.q]] w (RetBelow (.agg #[.int .i64 (2 * c.x + 1), .int .i64 (2 * c.y + 1)]) w) := by
  obtain ⟨x, y, q⟩ := c
  dsimp only at hx hy ⊢
  have k1 : IntKind.i64.wrap (2 * x) = 2 * x := IntWalk.i64_in _ (by omega)
  have k2 : IntKind.i64.wrap (2 * y) = 2 * y := IntWalk.i64_in _ (by omega)
  have k3 : IntKind.i64.wrap (2 * x + 1) = 2 * x + 1 := IntWalk.i64_in _ (by omega)
  have k4 : IntKind.i64.wrap (2 * y + 1) = 2 * y + 1 := IntWalk.i64_in _ (by omega)
  have H := ((Bx.start w).new #[.int .i64 x, .int .i64 y, .int .u8 q] 111 rfl).new #[.int .i64 0, .int .i64 0] 311 (N := w.heap.size + 1) (by simp)
  go_enter Tryz.func239, Tryz.ntmps239
  go_upto_region 1 with fail
  obtain ⟨W, hW⟩ : ∃ W, W = (w.alloc (.cells #[.int .i64 x, .int .i64 y, .int .u8 q] 111)).alloc (.cells #[.int .i64 0, .int .i64 0] 311) := ⟨_, rfl⟩
  rw [← hW] at H ⊢
  obtain ⟨N, hN⟩ : ∃ N, N = w.heap.size := ⟨_, rfl⟩
  rw [← hN] at H ⊢
  clear hW hN
  obtain ⟨⟨a0, a1, a2⟩, _⟩ := blk3 (H.blk 0 _ _ _ rfl)
  obtain ⟨⟨b0, b1⟩, c0, c1⟩ := blk2 (H.blk 1 _ _ _ rfl)
  go_wp2_with fail
  have H4 := (H.set 1 0 rfl (.int .i64 (2 * x + 1))).set 1 1 rfl (.int .i64 (2 * y + 1))
  exact bodyPost_ret (res_cell rfl rfl (H4.range 1 rfl) Tryz.underlying311 rfl (by kernel_rfl)) rfl ⟨rfl, H4.below⟩
end Go.Proofs.YtdkijcmhjeaofaaGreatDoor
namespace Go.Proofs.YtdkijcmhjeaofaaGreatDoor
open Go.RowKit

/-- A whole value into the block that was made last. -/
theorem wpList_store_new {P : Program} {ops : Array Oper} {rest : List Oper} {op : Oper} {a : Act} {w : World} {Q : Exit → Act → World → Prop} (hgd : op.guard = none) (t : TypeId) (x y : Operand) (ho : op.op = .store t x y)
    (c c' : Array Value) (hx : a.eval x = .pointer (some ⟨w.heap.size, 0, none⟩)) (hy : a.eval y = .agg c') (hi : (P.info? t).map (·.size) = some c'.size) (hc : c.size = c'.size) (h1 : c'.all (·.oneCell') = true)
    (h : wpList P ops Q rest (a.put op.dst undef) (w.alloc (.cells c' t))) : wpList P ops Q (op :: rest) a (w.alloc (.cells c t)) :=
  wpList_plain hgd fun K hK => by
    have hk : K (a.put op.dst undef) (w.alloc (.cells c' t)) := hK _ _ h
    unfold Oper.wp execOp
    simp only [ho, hx, hy, Sem.run_bind, run_storeAt_new w t c c' hi hc h1, Sem.run_pure, Result.andThen_ok]
    exact hk
/-- The kind of the line of the edge 0 of a quarter, and how much more its number is. -/
def qln : Nat → Int
  | 0 => 2 | 1 => 1 | 2 => 2 | _ => 1
def qby : Nat → Int
  | 0 => 0 | 1 => 1 | 2 => 1 | _ => 0
/-- A row of the table. -/
def rowQ (q : Nat) : List Value := [.int .i64 (qside q).1, .int .i64 (qside q).2, .int .u8 (qln q), .int .i64 (qby q),
  .int .i64 (nxt q 0).1, .int .i64 (nxt q 0).2.1, .int .u8 (nxt q 0).2.2, .int .i64 (nxt q 1).1, .int .i64 (nxt q 1).2.1, .int .u8 (nxt q 1).2.2, .int .i64 (nxt q 2).1, .int .i64 (nxt q 2).2.1, .int .u8 (nxt q 2).2.2,
  .int .i64 (qone q).1, .int .i64 (qone q).2, .int .i64 (qtwo q).1, .int .i64 (qtwo q).2]
def quartersL : List Value := rowQ 0 ++ rowQ 1 ++ rowQ 2 ++ rowQ 3
/-- The table lies as the text lays it. -/
structure Qf (w : World) : Prop where
  lt : 1 < w.heap.size
  at' : w.rangeAt 1 0 quartersL
theorem Qf.below {w w' : World} (h : Qf w) (hb : Below w.heap.size w w') : Qf w' :=
  ⟨Nat.lt_of_lt_of_le h.lt hb.size, fun j v hj => below_cell hb (h.at' j v hj)⟩
theorem Qf.row {w : World} (h : Qf w) {q : Nat} (hq : q < 4) : w.rangeAt 1 (q * 17) (rowQ q) := by
  intro j v hj
  have hj17 : j < 17 := (List.getElem?_eq_some_iff.1 hj).1
  have := h.at' (q * 17 + j) v (by
    have h4 : q = 0 ∨ q = 1 ∨ q = 2 ∨ q = 3 := by omega
    rcases h4 with rfl | rfl | rfl | rfl
    · unfold quartersL
      rw [List.append_assoc, List.append_assoc, List.getElem?_append_left (by simp [rowQ]; omega)]; simpa using hj
    · unfold quartersL
      rw [List.append_assoc, List.append_assoc, List.getElem?_append_right (by simp [rowQ]), List.getElem?_append_left (by simp [rowQ]; omega)]
      have : 1 * 17 + j - (rowQ 0).length = j := by simp [rowQ]
      rw [this]; exact hj
    · unfold quartersL
      rw [List.append_assoc, List.getElem?_append_right (by simp [rowQ]), List.getElem?_append_left (by simp [rowQ]; omega)]
      have : 2 * 17 + j - (rowQ 0 ++ rowQ 1).length = j := by simp [rowQ]
      rw [this]; exact hj
    · unfold quartersL
      rw [List.getElem?_append_right (by simp [rowQ])]
      have : 3 * 17 + j - (rowQ 0 ++ rowQ 1 ++ rowQ 2).length = j := by simp [rowQ]
      rw [this]; exact hj)
  rw [Nat.zero_add] at this
  exact this
theorem Qf.qt {w : World} (h : Qf w) : Qt w := by
  refine ⟨h.lt, fun q e hq he => ?_⟩
  have hr := h.row hq
  have h3 : e = 0 ∨ e = 1 ∨ e = 2 := by omega
  rcases h3 with rfl | rfl | rfl
  · exact ⟨hr 4 _ rfl, hr 5 _ rfl, hr 6 _ rfl⟩
  · exact ⟨hr 7 _ rfl, hr 8 _ rfl, hr 9 _ rfl⟩
  · exact ⟨hr 10 _ rfl, hr 11 _ rfl, hr 12 _ rfl⟩

/-- The corners of a cell. -/
def cornersV (c : Cl) : Value := .agg #[.int .i64 (2 * c.x + 1), .int .i64 (2 * c.y + 1), .int .i64 (2 * c.x + (qone c.q).1), .int .i64 (2 * c.y + (qone c.q).2), .int .i64 (2 * c.x + (qtwo c.q).1), .int .i64 (2 * c.y + (qtwo c.q).2)]
theorem q_bd (q : Nat) : (0 ≤ (qone q).1 ∧ (qone q).1 ≤ 2) ∧ (0 ≤ (qone q).2 ∧ (qone q).2 ≤ 2) ∧ (0 ≤ (qtwo q).1 ∧ (qtwo q).1 ≤ 2) ∧ (0 ≤ (qtwo q).2 ∧ (qtwo q).2 ≤ 2) := by
  unfold qone qtwo; split <;> decide

def cArr (x y u1 u2 v1 v2 : Int) : Nat → Array Value
  | 0 => #[.int .i64 1, .int .i64 1, .int .i64 u1, .int .i64 u2, .int .i64 v1, .int .i64 v2]
  | 1 => #[.int .i64 (2 * x + 1), .int .i64 (2 * y + 1), .int .i64 u1, .int .i64 u2, .int .i64 v1, .int .i64 v2]
  | 2 => #[.int .i64 (2 * x + 1), .int .i64 (2 * y + 1), .int .i64 (2 * x + u1), .int .i64 (2 * y + u2), .int .i64 v1, .int .i64 v2]
  | _ => #[.int .i64 (2 * x + 1), .int .i64 (2 * y + 1), .int .i64 (2 * x + u1), .int .i64 (2 * y + u2), .int .i64 (2 * x + v1), .int .i64 (2 * y + v2)]
theorem blk6 {w : World} {g : Nat} {a b c d e f : Value} {t : TypeId} (h : w.heap[g]? = some (Obj.cells #[a, b, c, d, e, f] t (0, 0))) :
    (w.cell? ⟨g, 0, none⟩ = some a ∧ w.cell? ⟨g, 1, none⟩ = some b ∧ w.cell? ⟨g, 2, none⟩ = some c ∧ w.cell? ⟨g, 3, none⟩ = some d ∧ w.cell? ⟨g, 4, none⟩ = some e ∧ w.cell? ⟨g, 5, none⟩ = some f) ∧
    (w.frozen? ⟨g, 0, none⟩ = false ∧ w.frozen? ⟨g, 1, none⟩ = false ∧ w.frozen? ⟨g, 2, none⟩ = false ∧ w.frozen? ⟨g, 3, none⟩ = false ∧ w.frozen? ⟨g, 4, none⟩ = false ∧ w.frozen? ⟨g, 5, none⟩ = false) := by
  have hc : ∀ j, w.cell? ⟨g, j, none⟩ = #[a, b, c, d, e, f][j]? := fun j => cell_of_row w g j _ t (0, 0) h
  have hf : ∀ j, w.frozen? ⟨g, j, none⟩ = false := fun j => by simp [World.frozen?, h]
  exact ⟨⟨hc 0, hc 1, hc 2, hc 3, hc 4, hc 5⟩, hf 0, hf 1, hf 2, hf 3, hf 4, hf 5⟩

set_option maxRecDepth 100000 in
set_option maxHeartbeats 4000000 in
theorem corners_ok (c : Cl) (w : World) (hc : c.ok = true) (hQ : Qf w) : Calls Tryz.prog 196 #[.agg #[.int .i64 c.x, .int .i64 c.y, .int .u8 c.q]] w (RetBelow (.tuple #[cornersV c, .int .i64 0]) w) := by
  unfold Cl.ok at hc
  obtain ⟨c1, c2, c3, c4, c5⟩ := okC_iff.1 hc
  obtain ⟨x, y, q⟩ := c
  dsimp only at hc c1 c2 c3 c4 c5 ⊢
  have hq : q < 4 := by omega
  unfold cornersV
  dsimp only
  obtain ⟨⟨o1, o2⟩, ⟨o3, o4⟩, ⟨o5, o6⟩, o7, o8⟩ := q_bd q
  have hrow := fun (w' : World) (h : Qf w') => h.row hq
  unfold rowQ at hrow
  obtain ⟨⟨u1, u2⟩, h1⟩ : ∃ z, qone q = z := ⟨_, rfl⟩
  obtain ⟨⟨v1, v2⟩, h2⟩ : ∃ z, qtwo q = z := ⟨_, rfl⟩
  obtain ⟨⟨s1, s2⟩, h3⟩ : ∃ z, qside q = z := ⟨_, rfl⟩
  obtain ⟨ln, h4⟩ : ∃ z, qln q = z := ⟨_, rfl⟩
  obtain ⟨by', h5⟩ : ∃ z, qby q = z := ⟨_, rfl⟩
  obtain ⟨⟨n1, n2, n3⟩, h6⟩ : ∃ z, nxt q 0 = z := ⟨_, rfl⟩
  obtain ⟨⟨n4, n5, n6⟩, h7⟩ : ∃ z, nxt q 1 = z := ⟨_, rfl⟩
  obtain ⟨⟨n7, n8, n9⟩, h8⟩ : ∃ z, nxt q 2 = z := ⟨_, rfl⟩
  rw [h1, h2, h3, h4, h5, h6, h7, h8] at hrow
  rw [h1] at o1 o2 o3 o4
  rw [h2] at o5 o6 o7 o8
  rw [h1, h2]
  dsimp only at hrow o1 o2 o3 o4 o5 o6 o7 o8 ⊢
  have HC := Lib.hid hc
  have HROW := Lib.hid hrow
  have HQ := Lib.hid hQ
  have q1 : (q : Int) < 4 := by omega
  have H := ((Bx.start w).new #[.int .i64 x, .int .i64 y, .int .u8 q] 111 rfl).new #[.int .i64 0, .int .i64 0, .int .i64 0, .int .i64 0, .int .i64 0, .int .i64 0] 312 (N := w.heap.size + 1) (by simp)
  clear hc hrow h1 h2 h3 h4 h5 h6 h7 h8 hQ
  go_enter Tryz.func196, Tryz.ntmps196
  go_upto_region 1 with fail
  obtain ⟨W, hW⟩ : ∃ W, W = (w.alloc (.cells #[.int .i64 x, .int .i64 y, .int .u8 q] 111)).alloc (.cells #[.int .i64 0, .int .i64 0, .int .i64 0, .int .i64 0, .int .i64 0, .int .i64 0] 312) := ⟨_, rfl⟩
  rw [← hW] at H ⊢
  obtain ⟨N, hN⟩ : ∃ N, N = w.heap.size := ⟨_, rfl⟩
  rw [← hN] at H ⊢
  clear hW hN
  obtain ⟨⟨a0, a1, a2⟩, _⟩ := blk3 (H.blk 0 _ _ _ rfl)
  go_wp2_with fail
  refine (cellCheck_any x y q _).mono ?_
  rintro e w2 ⟨rfl, hb⟩
  rw [HC.out, ec_t]
  have H2 := H.call hb
  clear a0 a1 a2 hb H
  obtain ⟨⟨a0, a1, a2⟩, _⟩ := blk3 (H2.blk 0 _ _ _ rfl)
  have hr := HROW.out _ (HQ.out.below H2.below)
  go_upto_region 3 with fail
  have hz : Tryz.prog.info? 329 = Tryz.prog.info? 329 := rfl
  clear hz
  repeat' (go_not_at_region 4; first
    | refine wpList_load_mid rfl 329 (.tmp 13) rfl 1 (q * 17) rfl _ _ hr Tryz.underlying329 rfl (by kernel_rfl) ?_
    | refine wpList_store_new rfl 329 (.tmp 4) (.tmp 14) rfl _ _ rfl rfl (by kernel_rfl) rfl rfl ?_
    | go_step)
  clear hr a0 a1 a2
  obtain ⟨G4, hG4⟩ : ∃ G, G = w2.heap.size := ⟨_, rfl⟩
  rw [← hG4]
  have H4 := H2.new #[.int .i64 s1, .int .i64 s2, .int .u8 ln, .int .i64 by', .int .i64 n1, .int .i64 n2, .int .u8 n3, .int .i64 n4, .int .i64 n5, .int .u8 n6, .int .i64 n7, .int .i64 n8, .int .u8 n9, .int .i64 u1, .int .i64 u2, .int .i64 v1, .int .i64 v2] 329 hG4.symm
  obtain ⟨W4, hW4⟩ : ∃ W, W = w2.alloc (.cells #[.int .i64 s1, .int .i64 s2, .int .u8 ln, .int .i64 by', .int .i64 n1, .int .i64 n2, .int .u8 n3, .int .i64 n4, .int .i64 n5, .int .u8 n6, .int .i64 n7, .int .i64 n8, .int .u8 n9, .int .i64 u1, .int .i64 u2, .int .i64 v1, .int .i64 v2] 329) := ⟨_, rfl⟩
  rw [← hW4] at H4
  change Code.wp _ _ _ _ (w2.alloc (.cells #[.int .i64 s1, .int .i64 s2, .int .u8 ln, .int .i64 by', .int .i64 n1, .int .i64 n2, .int .u8 n3, .int .i64 n4, .int .i64 n5, .int .u8 n6, .int .i64 n7, .int .i64 n8, .int .u8 n9, .int .i64 u1, .int .i64 u2, .int .i64 v1, .int .i64 v2] 329))
  rw [← hW4]
  have hrr := H4.range 2 rfl
  have r13 := hrr 13 _ rfl
  have r14 := hrr 14 _ rfl
  have r15 := hrr 15 _ rfl
  have r16 := hrr 16 _ rfl
  simp only [Nat.zero_add] at r13 r14 r15 r16
  clear hrr hG4 hW4
  go_wp2_with fail
  obtain ⟨G5, hG5⟩ : ∃ G, G = W4.heap.size := ⟨_, rfl⟩
  rw [← hG5]
  have H5 := H4.new (cArr x y u1 u2 v1 v2 0) 312 hG5.symm
  have hne : N ≠ G5 := by have := H4.lt 0 rfl; omega
  have hne2 : N + 1 ≠ G5 := by have := H4.lt 1 rfl; omega
  clear hG5 r13 r14 r15 r16
  go_loopw [21] (fun i wr => ∃ k : Nat, k ≤ 3 ∧ i = .int .i64 k ∧ Bx w [(N, #[.int .i64 x, .int .i64 y, .int .u8 q], 111), (N + 1, #[.int .i64 0, .int .i64 0, .int .i64 0, .int .i64 0, .int .i64 0, .int .i64 0], 312), (G4, #[.int .i64 s1, .int .i64 s2, .int .u8 ln, .int .i64 by', .int .i64 n1, .int .i64 n2, .int .u8 n3, .int .i64 n4, .int .i64 n5, .int .u8 n6, .int .i64 n7, .int .i64 n8, .int .u8 n9, .int .i64 u1, .int .i64 u2, .int .i64 v1, .int .i64 v2], 329), (G5, cArr x y u1 u2 v1 v2 k, 312)] wr) (fun i _ => 3 - (intOf i).toNat)
  case atStart => exact ⟨0, by omega, rfl, H5⟩
  case round =>
    obtain ⟨k, hk, rfl, Hr⟩ := hrel
    obtain ⟨⟨a0, a1, a2⟩, _⟩ := blk3 (Hr.blk 0 _ _ _ rfl)
    have w1 : IntKind.i64.wrap (2 * x) = 2 * x := IntWalk.i64_in _ (by omega)
    have w2' : IntKind.i64.wrap (2 * y) = 2 * y := IntWalk.i64_in _ (by omega)
    have h4 : k = 0 ∨ k = 1 ∨ k = 2 ∨ k = 3 := by omega
    rcases h4 with rfl | rfl | rfl | rfl
    · as_aux_lemma =>
        have w3 : IntKind.i64.wrap (1 + 2 * x) = 2 * x + 1 := by rw [IntWalk.i64_in _ (by omega)]; omega
        have w4 : IntKind.i64.wrap (1 + 2 * y) = 2 * y + 1 := by rw [IntWalk.i64_in _ (by omega)]; omega
        obtain ⟨⟨d0, d1, d2, d3, d4, d5⟩, f0, f1, f2, f3, f4, f5⟩ := blk6 (Hr.blk 3 _ _ _ rfl)
        go_wp2_with fail
        go_region
        go_wp2_with fail
        go_region
        go_wp2_with fail
        exact ⟨⟨1, by omega, rfl, ((Hr.set 3 0 rfl (.int .i64 (2 * x + 1))).set 3 1 rfl (.int .i64 (2 * y + 1))).drew.drew⟩, by simp [intOf]⟩
    · as_aux_lemma =>
        have w3 : IntKind.i64.wrap (u1 + 2 * x) = 2 * x + u1 := by rw [IntWalk.i64_in _ (by omega)]; omega
        have w4 : IntKind.i64.wrap (u2 + 2 * y) = 2 * y + u2 := by rw [IntWalk.i64_in _ (by omega)]; omega
        obtain ⟨⟨d0, d1, d2, d3, d4, d5⟩, f0, f1, f2, f3, f4, f5⟩ := blk6 (Hr.blk 3 _ _ _ rfl)
        go_wp2_with fail
        go_region
        go_wp2_with fail
        go_region
        go_wp2_with fail
        exact ⟨⟨2, by omega, rfl, ((Hr.set 3 2 rfl (.int .i64 (2 * x + u1))).set 3 3 rfl (.int .i64 (2 * y + u2))).drew.drew⟩, by simp [intOf]⟩
    · as_aux_lemma =>
        have w3 : IntKind.i64.wrap (v1 + 2 * x) = 2 * x + v1 := by rw [IntWalk.i64_in _ (by omega)]; omega
        have w4 : IntKind.i64.wrap (v2 + 2 * y) = 2 * y + v2 := by rw [IntWalk.i64_in _ (by omega)]; omega
        obtain ⟨⟨d0, d1, d2, d3, d4, d5⟩, f0, f1, f2, f3, f4, f5⟩ := blk6 (Hr.blk 3 _ _ _ rfl)
        go_wp2_with fail
        go_region
        go_wp2_with fail
        go_region
        go_wp2_with fail
        exact ⟨⟨3, by omega, rfl, ((Hr.set 3 4 rfl (.int .i64 (2 * x + v1))).set 3 5 rfl (.int .i64 (2 * y + v2))).drew.drew⟩, by simp [intOf]⟩
    · as_aux_lemma =>
        obtain ⟨⟨d0, d1, d2, d3, d4, d5⟩, f0, f1, f2, f3, f4, f5⟩ := blk6 (Hr.blk 3 _ _ _ rfl)
        obtain ⟨⟨b0, b1, b2, b3, b4, b5⟩, g0, g1, g2, g3, g4, g5⟩ := blk6 (Hr.blk 1 _ _ _ rfl)
        go_wp2_with fail
        have H6 := (((((Hr.set 1 0 rfl (.int .i64 (2 * x + 1))).set 1 1 rfl (.int .i64 (2 * y + 1))).set 1 2 rfl (.int .i64 (2 * x + u1))).set 1 3 rfl (.int .i64 (2 * y + u2))).set 1 4 rfl (.int .i64 (2 * x + v1))).set 1 5 rfl (.int .i64 (2 * y + v2))
        exact bodyPost_ret (res_cell_tmp rfl rfl (H6.range 1 rfl) Tryz.underlying312 rfl (by kernel_rfl)) rfl ⟨rfl, H6.below⟩
end Go.Proofs.YtdkijcmhjeaofaaGreatDoor
namespace Go.Proofs.YtdkijcmhjeaofaaGreatDoor
open Go.RowKit

/-- What cells.moved does. -/
def MovedOk : Prop := ∀ (m : Mv) (c : Cl) (w : World), m.ok = true → c.ok = true → Qf w → Tn w →
  Calls Tryz.prog 202 #[.agg #[.int .u8 m.t, .int .i64 m.x, .int .i64 m.y], .agg #[.int .i64 c.x, .int .i64 c.y, .int .u8 c.q]] w (RetBelow (.agg #[.int .i64 (movedC m c).x, .int .i64 (movedC m c).y, .int .u8 (movedC m c).q]) w)
def clR (r : Cl × Int) : Value := .tuple #[.agg #[.int .i64 r.1.x, .int .i64 r.1.y, .int .u8 r.1.q], .int .i64 r.2]

set_option maxRecDepth 100000 in
set_option maxHeartbeats 2000000 in
theorem cellMove_ok (hmv : MovedOk) (m : Mv) (c : Cl) (w : World) (hm : m.ok = true) (hc : c.ok = true) (hQ : Qf w) (hT : Tn w) :
    Calls Tryz.prog 156 #[.agg #[.int .u8 m.t, .int .i64 m.x, .int .i64 m.y], .agg #[.int .i64 c.x, .int .i64 c.y, .int .u8 c.q]] w (RetBelow (clR (moveC m c)) w) := by
  have HM := Lib.hid fun w' (hb : Below w.heap.size w w') => hmv m c w' hm hc (hQ.below hb) (hT.below hb)
  have hR : moveC m c = if (movedC m c).ok then (movedC m c, 0) else (cl0, 3) := rfl
  obtain ⟨⟨rx, ry, rq⟩, hd⟩ : ∃ d, movedC m c = d := ⟨_, rfl⟩
  rw [hd] at HM hR
  dsimp only at HM
  obtain ⟨R, hRR⟩ : ∃ R, moveC m c = R := ⟨_, rfl⟩
  rw [hRR] at hR ⊢
  have HR := Lib.hid hR
  obtain ⟨m1, _⟩ := Mv.ok_iff.1 hm
  obtain ⟨t, x, y⟩ := m
  obtain ⟨a, b, q⟩ := c
  dsimp only at m1 HM ⊢
  have E1 : Hid (okM t x y = true) := Lib.hid hm
  have E2 : Hid (okC a b q = true) := Lib.hid hc
  have B1 := Lib.hid (show 0 ≤ (t : Int) ∧ (t : Int) ≤ 255 by omega)
  have H := (((Bx.start w).new #[.int .u8 t, .int .i64 x, .int .i64 y] 68 rfl).new #[.int .i64 a, .int .i64 b, .int .u8 q] 111 (N := w.heap.size + 1) (by simp)).new #[.int .i64 0, .int .i64 0, .int .u8 0] 111 (N := w.heap.size + 2) (by simp)
  clear hm hc hQ hT hR hd hRR
  go_enter Tryz.func156, Tryz.ntmps156
  go_upto_region 1 with fail
  obtain ⟨W, hW⟩ : ∃ W, W = ((w.alloc (.cells #[.int .u8 t, .int .i64 x, .int .i64 y] 68)).alloc (.cells #[.int .i64 a, .int .i64 b, .int .u8 q] 111)).alloc (.cells #[.int .i64 0, .int .i64 0, .int .u8 0] 111) := ⟨_, rfl⟩
  rw [← hW] at H ⊢
  obtain ⟨N, hN⟩ : ∃ N, N = w.heap.size := ⟨_, rfl⟩
  rw [← hN] at H ⊢
  obtain ⟨P, hP⟩ : ∃ P, P = N + 2 := ⟨_, rfl⟩
  rw [← hP] at H
  rw [show N + 1 + 1 = P from hP.symm]
  clear hW hN hP
  obtain ⟨⟨f0, f1, f2⟩, _⟩ := blk3 (H.blk 0 _ _ _ rfl)
  go_wp2_with fail
  refine (moveCheck_any t x y _ B1.out).mono ?_
  rintro e w2 ⟨rfl, hb⟩
  rw [E1.out, ec_t]
  have H2 := H.call hb
  clear f0 f1 f2 hb H
  obtain ⟨⟨g0, g1, g2⟩, _⟩ := blk3 (H2.blk 1 _ _ _ rfl)
  go_wp2_with fail
  refine (cellCheck_any a b q _).mono ?_
  rintro e w3 ⟨rfl, hb⟩
  rw [E2.out, ec_t]
  have H3 := H2.call hb
  clear g0 g1 g2 hb H2
  obtain ⟨⟨f0, f1, f2⟩, _⟩ := blk3 (H3.blk 0 _ _ _ rfl)
  obtain ⟨⟨g0, g1, g2⟩, _⟩ := blk3 (H3.blk 1 _ _ _ rfl)
  go_wp2_with fail
  refine (HM.out _ H3.below).mono ?_
  rintro e w4 ⟨rfl, hb⟩
  have H4 := H3.call hb
  clear f0 f1 f2 g0 g1 g2 hb H3
  have H5 := H4.new #[.int .i64 rx, .int .i64 ry, .int .u8 rq] 111 rfl
  go_wp2_with fail
  refine (cellCheck_any rx ry rq _).mono ?_
  rintro e w5 ⟨rfl, hb⟩
  have H6 := H5.call hb
  clear hb H5 H4
  obtain ⟨⟨c0, c1, c2⟩, d0, d1, d2⟩ := blk3 (H6.blk 2 _ _ _ rfl)
  obtain ⟨⟨b0, b1, b2⟩, _⟩ := blk3 (H6.blk 3 _ _ _ rfl)
  cases hk : okC rx ry rq
  · have HK : Hid ((⟨rx, ry, rq⟩ : Cl).ok = false) := Lib.hid hk
    rw [ec_f]
    clear hk
    go_wp2_with fail
    have H7 := ((H6.set 2 0 rfl (.int .i64 0)).set 2 1 rfl (.int .i64 0)).set 2 2 rfl (.int .u8 0)
    exact bodyPost_ret (res_cell_tmp rfl rfl (H7.range 2 rfl) Tryz.underlying111 rfl (by kernel_rfl)) rfl ⟨by rw [HR.out, HK.out]; rfl, H7.below⟩
  · have HK : Hid ((⟨rx, ry, rq⟩ : Cl).ok = true) := Lib.hid hk
    rw [ec_t]
    clear hk
    go_wp2_with fail
    have H7 := ((H6.set 2 0 rfl (.int .i64 rx)).set 2 1 rfl (.int .i64 ry)).set 2 2 rfl (.int .u8 rq)
    exact bodyPost_ret (res_cell_tmp rfl rfl (H7.range 2 rfl) Tryz.underlying111 rfl (by kernel_rfl)) rfl ⟨by rw [HR.out, HK.out]; rfl, H7.below⟩
end Go.Proofs.YtdkijcmhjeaofaaGreatDoor
