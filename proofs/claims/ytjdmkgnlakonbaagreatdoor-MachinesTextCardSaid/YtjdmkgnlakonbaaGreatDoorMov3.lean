/- Contracts of package moves: limited, Flips, Then, Point, Of. -/
import Derived.Test.YtjdmkgnlakonbaaGreatDoorMov2
import Derived.Test.YtjdmkgnlakonbaaGreatDoorSp2
namespace Go.Proofs.YtjdmkgnlakonbaaGreatDoor
open Go.RowKit

def mvR (r : Mv × Int) : Value := .tuple #[r.1.v, .int .i64 r.2]

set_option maxHeartbeats 1000000 in
theorem limited_any (t : Nat) (x y : Int) (w : World) (ht : t ≤ 255) : Calls Tryz.prog 159 #[.agg #[.int .u8 t, .int .i64 x, .int .i64 y]] w (RetBelow (mvR (limM ⟨t, x, y⟩)) w) := by
  obtain ⟨R, hR⟩ : ∃ R, limM ⟨t, x, y⟩ = R := ⟨_, rfl⟩
  rw [hR]
  have HR := Lib.hid hR
  have HC := Lib.hid (show 0 ≤ (t : Int) ∧ (t : Int) ≤ 255 by omega)
  have H := ((Bx.start w).new #[.int .u8 t, .int .i64 x, .int .i64 y] 42 rfl).new #[.int .u8 0, .int .i64 0, .int .i64 0] 42 (N := w.heap.size + 1) (by simp)
  clear hR
  go_enter Tryz.func159, Tryz.ntmps159
  go_upto_region 1 with fail
  obtain ⟨W, hW⟩ : ∃ W, W = (w.alloc (.cells #[.int .u8 t, .int .i64 x, .int .i64 y] 42)).alloc (.cells #[.int .u8 0, .int .i64 0, .int .i64 0] 42) := ⟨_, rfl⟩
  rw [← hW] at H ⊢
  obtain ⟨N, hN⟩ : ∃ N, N = w.heap.size := ⟨_, rfl⟩
  rw [← hN] at H ⊢
  clear hW hN
  obtain ⟨⟨a0, a1, a2⟩, _⟩ := blk3 (H.blk 0 _ _ _ rfl)
  go_wp2_with fail
  refine (moveCheck_any t x y _ HC.out).mono ?_
  rintro e w2 ⟨rfl, hb⟩
  have H2 := H.call hb
  obtain ⟨⟨b0, b1, b2⟩, _⟩ := blk3 (H2.blk 0 _ _ _ rfl)
  obtain ⟨⟨c0, c1, c2⟩, d0, d1, d2⟩ := blk3 (H2.blk 1 _ _ _ rfl)
  clear a0 a1 a2 hb H
  cases hk : okM t x y
  · have hfin : R = (mv0, 3) := by rw [← HR.out]; unfold limM Mv.ok; rw [hk]; rfl
    rw [ec_f]
    clear hk
    go_wp2_with fail
    have H3 := ((H2.set 1 0 rfl (.int .u8 0)).set 1 1 rfl (.int .i64 0)).set 1 2 rfl (.int .i64 0)
    exact bodyPost_ret (res_cell_tmp rfl rfl (H3.range 1 rfl) Tryz.underlying42 rfl (by kernel_rfl)) rfl ⟨by rw [hfin]; rfl, H3.below⟩
  · have hfin : R = (⟨t, x, y⟩, 0) := by rw [← HR.out]; unfold limM Mv.ok; rw [hk]; rfl
    rw [ec_t]
    clear hk
    go_wp2_with fail
    have H3 := ((H2.set 1 0 rfl (.int .u8 t)).set 1 1 rfl (.int .i64 x)).set 1 2 rfl (.int .i64 y)
    exact bodyPost_ret (res_cell_tmp rfl rfl (H3.range 1 rfl) Tryz.underlying42 rfl (by kernel_rfl)) rfl ⟨by rw [hfin]; rfl, H3.below⟩

set_option maxHeartbeats 1000000 in
theorem flips_any (m : Mv) (w : World) (ht : m.t ≤ 255) : Calls Tryz.prog 130 #[.agg #[.int .u8 m.t, .int .i64 m.x, .int .i64 m.y]] w (RetBelow (.bool (flipsM m)) w) := by
  obtain ⟨R, hR⟩ : ∃ R, flipsM m = R := ⟨_, rfl⟩
  rw [hR]
  have HR := Lib.hid hR
  obtain ⟨t, x, y⟩ := m
  dsimp only at ht ⊢
  have HC := Lib.hid (show 0 ≤ (t : Int) ∧ (t : Int) ≤ 255 by omega)
  have H := (Bx.start w).new #[.int .u8 t, .int .i64 x, .int .i64 y] 42 rfl
  clear hR
  go_enter Tryz.func130, Tryz.ntmps130
  go_upto_region 1 with fail
  obtain ⟨W, hW⟩ : ∃ W, W = w.alloc (.cells #[.int .u8 t, .int .i64 x, .int .i64 y] 42) := ⟨_, rfl⟩
  rw [← hW] at H ⊢
  obtain ⟨N, hN⟩ : ∃ N, N = w.heap.size := ⟨_, rfl⟩
  rw [← hN] at H ⊢
  clear hW hN
  obtain ⟨⟨a0, a1, a2⟩, _⟩ := blk3 (H.blk 0 _ _ _ rfl)
  go_wp2_with fail
  refine (moveCheck_any t x y _ HC.out).mono ?_
  rintro e w2 ⟨rfl, hb⟩
  have H2 := H.call hb
  obtain ⟨⟨b0, b1, b2⟩, _⟩ := blk3 (H2.blk 0 _ _ _ rfl)
  clear a0 a1 a2 hb H
  cases hk : okM t x y
  · have hfin : R = false := by rw [← HR.out]; unfold flipsM Mv.ok; rw [hk]; rfl
    rw [ec_f]
    clear hk
    go_wp2_with fail
    go_ret
    exact ⟨by subst hfin; first | rfl | simp, H2.below⟩
  · have hfin : R = decide (4 ≤ t) := by rw [← HR.out]; unfold flipsM Mv.ok; rw [hk]; rfl
    have HF := Lib.hid hfin
    rw [ec_t]
    clear hk hfin
    by_cases h4 : 4 ≤ t
    · have h4' : (4 : Int) ≤ t := by omega
      go_wp2_with fail
      go_ret
      exact ⟨ret_bool (by rw [HF.out, decide_eq_true h4]; first | done | (simp; done) | (simp; omega)), H2.below⟩
    · have h4' : ¬ (4 : Int) ≤ t := by omega
      go_wp2_with fail
      go_ret
      exact ⟨ret_bool (by rw [HF.out, decide_eq_false h4]; first | done | (simp; done) | (simp; omega)), H2.below⟩

theorem matThen_num (s t : Nat) (hs : s < 8) (ht : t < 8) : matNum (matThen (mat s) (mat t)) < 8 ∧ matThen (mat s) (mat t) = mat (matNum (matThen (mat s) (mat t))) := by
  have : ∀ s < 8, ∀ t < 8, matNum (matThen (mat s) (mat t)) < 8 ∧ matThen (mat s) (mat t) = mat (matNum (matThen (mat s) (mat t))) := by decide
  exact this s hs t ht
theorem Mv.ok_iff {m : Mv} : m.ok = true ↔ m.t < 8 ∧ (-16384 ≤ m.x ∧ m.x ≤ 16384) ∧ (-16384 ≤ m.y ∧ m.y ≤ 16384) ∧ (m.x + m.y) % 2 = 0 := by
  unfold Mv.ok; rw [okM_iff]; omega

theorem cell_set {w : World} {P b o j : Nat} {v x : Value} (hne : b ≠ P) (h : w.cell? ⟨b, o, none⟩ = some v) : (w.setCell ⟨P, j, none⟩ x).cell? ⟨b, o, none⟩ = some v := by
  rw [World.cell?_setCell_other _ _ _ _ (by simp)]; exact h
theorem cell_set3 {w : World} {P b o i j k : Nat} {v x y z : Value} (hne : b ≠ P) (h : w.cell? ⟨b, o, none⟩ = some v) : (((w.setCell ⟨P, i, none⟩ x).setCell ⟨P, j, none⟩ y).setCell ⟨P, k, none⟩ z).cell? ⟨b, o, none⟩ = some v :=
  cell_set hne (cell_set hne (cell_set hne h))

set_option maxRecDepth 100000 in
set_option maxHeartbeats 4000000 in
theorem then_ok (m n : Mv) (w : World) (hm : m.ok = true) (hn : n.ok = true) (hT : Tn w) :
    Calls Tryz.prog 98 #[.agg #[.int .u8 m.t, .int .i64 m.x, .int .i64 m.y], .agg #[.int .u8 n.t, .int .i64 n.x, .int .i64 n.y]] w (RetBelow (mvR (thenM m n)) w) := by
  obtain ⟨⟨⟨rt, rx, ry⟩, re⟩, hR⟩ : ∃ R, thenM m n = R := ⟨_, rfl⟩
  rw [hR]
  obtain ⟨m1, ⟨m2, m3⟩, ⟨m4, m5⟩, _⟩ := Mv.ok_iff.1 hm
  obtain ⟨n1, ⟨n2, n3⟩, ⟨n4, n5⟩, _⟩ := Mv.ok_iff.1 hn
  obtain ⟨k1, k2⟩ := matThen_num m.t n.t m1 n1
  obtain ⟨t, x, y⟩ := m
  obtain ⟨u, p, q⟩ := n
  dsimp only at m1 m2 m3 m4 m5 n1 n2 n3 n4 n5 k1 k2 ⊢
  have hOf := fun w => of_any u x y w (by omega) (by omega)
  have hTh := fun w => then_any t u w
  obtain ⟨⟨ob1, ob2⟩, ob3, ob4⟩ := matOf_bd u (x := x) (y := y) (B := 16384) (by omega) (by omega)
  unfold thenM at hR
  dsimp only at hR
  obtain ⟨r, hr⟩ : ∃ r, matNum (matThen (mat t) (mat u)) = r := ⟨_, rfl⟩
  rw [hr] at k1 k2 hR
  rw [k2] at hTh
  obtain ⟨⟨sx, sy⟩, hs⟩ : ∃ s, matOf (mat u) x y = s := ⟨_, rfl⟩
  rw [hs] at hOf hR ob1 ob2 ob3 ob4
  dsimp only at hOf hR ob1 ob2 ob3 ob4
  obtain ⟨⟨a1, a2, a3, a4⟩, hat⟩ : ∃ z, mat t = z := ⟨_, rfl⟩
  obtain ⟨⟨b1, b2, b3, b4⟩, hau⟩ : ∃ z, mat u = z := ⟨_, rfl⟩
  have hct := fun (w' : World) (h : Tn w') => h.at' t m1
  have hcu := fun (w' : World) (h : Tn w') => h.at' u n1
  rw [hat] at hTh hct
  rw [hau] at hOf hTh hcu
  have hnum := fun w h => number_any r k1 w h
  obtain ⟨⟨c1, c2, c3, c4⟩, har⟩ : ∃ z, mat r = z := ⟨_, rfl⟩
  rw [har] at hnum
  unfold matV at hTh
  rw [har] at hTh
  dsimp only at hTh hct hcu hOf hnum
  have hlim := fun w => limited_any r (sx + p) (sy + q) w (by omega)
  rw [hR] at hlim
  have e1 : okM t x y = true := hm
  have e2 : okM u p q = true := hn
  have E1 := Lib.hid e1
  have E2 := Lib.hid e2
  have HOF := Lib.hid hOf
  have HTH := Lib.hid hTh
  have HCT := Lib.hid hct
  have HCU := Lib.hid hcu
  have HNUM := Lib.hid hnum
  have HLIM := Lib.hid hlim
  have B1 := Lib.hid (show 0 ≤ (t : Int) ∧ (t : Int) ≤ 255 by omega)
  have B2 := Lib.hid (show 0 ≤ (u : Int) ∧ (u : Int) ≤ 255 by omega)
  have w1 : IntKind.i64.wrap (sx + p) = sx + p := IntWalk.i64_in _ (by omega)
  have w2' : IntKind.i64.wrap (sy + q) = sy + q := IntWalk.i64_in _ (by omega)
  have q1 : (t : Int) < 8 := by omega
  have q2 : (u : Int) < 8 := by omega
  have H := (((Bx.start w).new #[.int .u8 t, .int .i64 x, .int .i64 y] 42 rfl).new #[.int .u8 u, .int .i64 p, .int .i64 q] 42 (N := w.heap.size + 1) (by simp)).new #[.int .u8 0, .int .i64 0, .int .i64 0] 42 (N := w.heap.size + 2) (by simp)
  have HT := Lib.hid hT
  clear hR hOf hTh hct hcu hnum hlim e1 e2 hm hn hs hr hat hau har k2 hT
  go_enter Tryz.func98, Tryz.ntmps98
  go_upto_region 1 with fail
  obtain ⟨W, hW⟩ : ∃ W, W = ((w.alloc (.cells #[.int .u8 t, .int .i64 x, .int .i64 y] 42)).alloc (.cells #[.int .u8 u, .int .i64 p, .int .i64 q] 42)).alloc (.cells #[.int .u8 0, .int .i64 0, .int .i64 0] 42) := ⟨_, rfl⟩
  rw [← hW] at H ⊢
  obtain ⟨N, hN⟩ : ∃ N, N = w.heap.size := ⟨_, rfl⟩
  rw [← hN] at H ⊢
  obtain ⟨P, hP⟩ : ∃ P, P = N + 2 := ⟨_, rfl⟩
  rw [← hP] at H
  rw [show N + 1 + 1 = P from hP.symm]
  have hne1 : N ≠ P := by omega
  have hne2 : N + 1 ≠ P := by omega
  have hne3 : 4 ≠ P := by have := HT.out.lt; omega
  clear hW hN hP
  obtain ⟨⟨f0, f1, f2⟩, _⟩ := blk3 (H.blk 0 _ _ _ rfl)
  obtain ⟨⟨g0, g1, g2⟩, _⟩ := blk3 (H.blk 1 _ _ _ rfl)
  go_wp2_with fail
  refine (moveCheck_any t x y _ B1.out).mono ?_
  rintro e w2 ⟨rfl, hb⟩
  rw [E1.out, ec_t]
  have H2 := H.call hb
  clear f0 f1 f2 g0 g1 g2 hb H
  obtain ⟨⟨f0, f1, f2⟩, _⟩ := blk3 (H2.blk 0 _ _ _ rfl)
  obtain ⟨⟨g0, g1, g2⟩, _⟩ := blk3 (H2.blk 1 _ _ _ rfl)
  go_wp2_with fail
  refine (moveCheck_any u p q _ B2.out).mono ?_
  rintro e w3 ⟨rfl, hb⟩
  rw [E2.out, ec_t]
  have H3 := H2.call hb
  clear f0 f1 f2 g0 g1 g2 hb H2
  obtain ⟨⟨f0, f1, f2⟩, _⟩ := blk3 (H3.blk 0 _ _ _ rfl)
  obtain ⟨⟨g0, g1, g2⟩, _⟩ := blk3 (H3.blk 1 _ _ _ rfl)
  have HT3 := HT.out.below H3.below
  obtain ⟨u0, u1, u2, u3⟩ := HCU.out _ HT3
  go_upto_region 3 with fail
  go_region_held3 (fun w' => w'.cell? ⟨N, 1, none⟩ = some (.int .i64 x) ∧ w'.cell? ⟨N, 2, none⟩ = some (.int .i64 y) ∧ w'.cell? ⟨N + 1, 0, none⟩ = some (.int .u8 u) ∧ w'.cell? ⟨4, u * 4, none⟩ = some (.int .i64 b1) ∧ w'.cell? ⟨4, u * 4 + 1, none⟩ = some (.int .i64 b2) ∧ w'.cell? ⟨4, u * 4 + 2, none⟩ = some (.int .i64 b3) ∧ w'.cell? ⟨4, u * 4 + 3, none⟩ = some (.int .i64 b4))
    (first | exact ⟨f1, f2, g0, u0, u1, u2, u3⟩ | go_keep)
    (first | (go_at_call 158; (with_reducible refine (HOF.out _).mono ?_); rintro e w4 ⟨rfl, hb4⟩; have H3 := H3.call (undrew hb4); have f1 := below_cell (undrew hb4) f1; have f2 := below_cell (undrew hb4) f2; have g0 := below_cell (undrew hb4) g0; have u0 := below_cell (undrew hb4) u0; have u1 := below_cell (undrew hb4) u1; have u2 := below_cell (undrew hb4) u2; have u3 := below_cell (undrew hb4) u3) | fail)
  have HT4 := HT.out.below H3.below
  obtain ⟨v0, v1, v2, v3⟩ := HCT.out _ HT4
  obtain ⟨u0, u1, u2, u3⟩ := HCU.out _ HT4
  clear f0 f1 f2 g0 g1 g2
  obtain ⟨⟨f0, f1, f2⟩, _⟩ := blk3 (H3.blk 0 _ _ _ rfl)
  obtain ⟨⟨g0, g1, g2⟩, _⟩ := blk3 (H3.blk 1 _ _ _ rfl)
  obtain ⟨_, z0, z1, z2⟩ := blk3 (H3.blk 2 _ _ _ rfl)
  clear HT3
  go_upto_region 4 with fail
  go_region_held3 (fun w' => w'.cell? ⟨N, 0, none⟩ = some (.int .u8 t) ∧ w'.cell? ⟨N + 1, 0, none⟩ = some (.int .u8 u) ∧ w'.cell? ⟨N + 1, 1, none⟩ = some (.int .i64 p) ∧ w'.cell? ⟨N + 1, 2, none⟩ = some (.int .i64 q) ∧ w'.cell? ⟨4, t * 4, none⟩ = some (.int .i64 a1) ∧ w'.cell? ⟨4, t * 4 + 1, none⟩ = some (.int .i64 a2) ∧ w'.cell? ⟨4, t * 4 + 2, none⟩ = some (.int .i64 a3) ∧ w'.cell? ⟨4, t * 4 + 3, none⟩ = some (.int .i64 a4) ∧ w'.cell? ⟨4, u * 4, none⟩ = some (.int .i64 b1) ∧ w'.cell? ⟨4, u * 4 + 1, none⟩ = some (.int .i64 b2) ∧ w'.cell? ⟨4, u * 4 + 2, none⟩ = some (.int .i64 b3) ∧ w'.cell? ⟨4, u * 4 + 3, none⟩ = some (.int .i64 b4))
    (first | exact ⟨f0, g0, g1, g2, v0, v1, v2, v3, u0, u1, u2, u3⟩ | exact ⟨cell_set3 hne1 f0, cell_set3 hne2 g0, cell_set3 hne2 g1, cell_set3 hne2 g2, cell_set3 hne3 v0, cell_set3 hne3 v1, cell_set3 hne3 v2, cell_set3 hne3 v3, cell_set3 hne3 u0, cell_set3 hne3 u1, cell_set3 hne3 u2, cell_set3 hne3 u3⟩ | go_keep)
    (first
      | (go_at_call 161; (with_reducible refine (HTH.out _).mono ?_); rintro e w5 ⟨rfl, hb5⟩; have H3 := H3.call (undrew hb5); have HT4 := HT4.below (undrew hb5); have f0 := below_cell (undrew hb5) f0; have g0 := below_cell (undrew hb5) g0; have g1 := below_cell (undrew hb5) g1; have g2 := below_cell (undrew hb5) g2; have v0 := below_cell (undrew hb5) v0; have v1 := below_cell (undrew hb5) v1; have v2 := below_cell (undrew hb5) v2; have v3 := below_cell (undrew hb5) v3; have u0 := below_cell (undrew hb5) u0; have u1 := below_cell (undrew hb5) u1; have u2 := below_cell (undrew hb5) u2; have u3 := below_cell (undrew hb5) u3)
      | (go_at_call 160; (with_reducible refine (HNUM.out _ HT4).mono ?_); rintro e w6 ⟨rfl, hb6⟩; have H3 := H3.call hb6; have f0 := below_cell hb6 f0; have g0 := below_cell hb6 g0; have g1 := below_cell hb6 g1; have g2 := below_cell hb6 g2; have v0 := below_cell hb6 v0; have v1 := below_cell hb6 v1; have v2 := below_cell hb6 v2; have v3 := below_cell hb6 v3; have u0 := below_cell hb6 u0; have u1 := below_cell hb6 u1; have u2 := below_cell hb6 u2; have u3 := below_cell hb6 u3)
      | (go_at_call 159; (with_reducible refine (HLIM.out _).mono ?_); rintro e w7 ⟨rfl, hb7⟩; unfold mvR Mv.v; dsimp only; have H3 := H3.call hb7; obtain ⟨⟨y0, y1, y2⟩, z0, z1, z2⟩ := blk3 (H3.blk 2 _ _ _ rfl); have f0 := below_cell hb7 f0; have g0 := below_cell hb7 g0; have g1 := below_cell hb7 g1; have g2 := below_cell hb7 g2; have v0 := below_cell hb7 v0; have v1 := below_cell hb7 v1; have v2 := below_cell hb7 v2; have v3 := below_cell hb7 v3; have u0 := below_cell hb7 u0; have u1 := below_cell hb7 u1; have u2 := below_cell hb7 u2; have u3 := below_cell hb7 u3)
      | fail)
  go_wp2_with fail
  have H5 := ((H3.set 2 0 rfl (.int .u8 rt)).set 2 1 rfl (.int .i64 rx)).set 2 2 rfl (.int .i64 ry)
  exact bodyPost_ret (res_cell_tmp rfl rfl (H5.range 2 rfl) Tryz.underlying42 rfl (by kernel_rfl)) rfl ⟨rfl, H5.below⟩
end Go.Proofs.YtjdmkgnlakonbaaGreatDoor
