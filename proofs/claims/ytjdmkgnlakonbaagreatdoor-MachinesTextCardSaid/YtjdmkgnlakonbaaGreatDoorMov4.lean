/- Contracts of package moves: Of, Point; Then at moves that may not be valid. -/
import Derived.Test.YtjdmkgnlakonbaaGreatDoorMov3
namespace Go.Proofs.YtjdmkgnlakonbaaGreatDoor
open Go.RowKit

set_option maxRecDepth 100000 in
set_option maxHeartbeats 4000000 in
theorem moveOf_any (k c : Int) (w : World) (hk0 : 0 ≤ k) : Calls Tryz.prog 109 #[.agg #[.int .u8 k, .int .i64 c]] w (RetBelow (mvR (moveL (k, c))) w) := by
  obtain ⟨R, hR⟩ : ∃ R, moveL (k, c) = R := ⟨_, rfl⟩
  rw [hR]
  have HR := Lib.hid hR
  have H := ((Bx.start w).new #[.int .u8 k, .int .i64 c] 59 rfl).new #[.int .u8 0, .int .i64 0, .int .i64 0] 42 (N := w.heap.size + 1) (by simp)
  clear hR
  go_enter Tryz.func109, Tryz.ntmps109
  go_upto_region 1 with fail
  obtain ⟨W, hW⟩ : ∃ W, W = (w.alloc (.cells #[.int .u8 k, .int .i64 c] 59)).alloc (.cells #[.int .u8 0, .int .i64 0, .int .i64 0] 42) := ⟨_, rfl⟩
  rw [← hW] at H ⊢
  obtain ⟨N, hN⟩ : ∃ N, N = w.heap.size := ⟨_, rfl⟩
  rw [← hN] at H ⊢
  clear hW hN
  obtain ⟨⟨a0, a1⟩, _⟩ := blk2 (H.blk 0 _ _ _ rfl)
  go_wp2_with fail
  refine (lineCheck_any k c _).mono ?_
  rintro e w2 ⟨rfl, hb⟩
  have H2 := H.call hb
  clear a0 a1 hb H
  obtain ⟨⟨a0, a1⟩, _⟩ := blk2 (H2.blk 0 _ _ _ rfl)
  obtain ⟨⟨c0, c1, c2⟩, d0, d1, d2⟩ := blk3 (H2.blk 1 _ _ _ rfl)
  cases hL : okL k c
  · have hfin : R = (mv0, 1) := by rw [← HR.out]; unfold moveL; rw [hL]; rfl
    rw [ec_f]
    clear hL
    go_wp2_with fail
    have H3 := ((H2.set 1 0 rfl (.int .u8 0)).set 1 1 rfl (.int .i64 0)).set 1 2 rfl (.int .i64 0)
    exact bodyPost_ret (res_cell_tmp rfl rfl (H3.range 1 rfl) Tryz.underlying42 rfl (by kernel_rfl)) rfl ⟨by rw [hfin]; rfl, H3.below⟩
  · obtain ⟨l1, l2, l3, l4⟩ := okL_iff.1 hL
    have hfin : R = (ofL k c, 0) := by rw [← HR.out]; unfold moveL; rw [hL]; rfl
    have HF := Lib.hid hfin
    rw [ec_t]
    clear hL hfin
    have h4 : k = 1 ∨ k = 2 ∨ k = 3 ∨ k = 4 := by omega
    rcases h4 with rfl | rfl | rfl | rfl
    · go_wp2_with fail
      have H3 := ((H2.set 1 0 rfl (.int .u8 4)).set 1 1 rfl (.int .i64 (2 * c))).set 1 2 rfl (.int .i64 0)
      exact bodyPost_ret (res_cell_tmp rfl rfl (H3.range 1 rfl) Tryz.underlying42 rfl (by kernel_rfl)) rfl ⟨by rw [HF.out]; rfl, H3.below⟩
    · go_wp2_with fail
      have H3 := ((H2.set 1 0 rfl (.int .u8 6)).set 1 1 rfl (.int .i64 0)).set 1 2 rfl (.int .i64 (2 * c))
      exact bodyPost_ret (res_cell_tmp rfl rfl (H3.range 1 rfl) Tryz.underlying42 rfl (by kernel_rfl)) rfl ⟨by rw [HF.out]; rfl, H3.below⟩
    · go_wp2_with fail
      have H3 := ((H2.set 1 0 rfl (.int .u8 5)).set 1 1 rfl (.int .i64 c)).set 1 2 rfl (.int .i64 c)
      exact bodyPost_ret (res_cell_tmp rfl rfl (H3.range 1 rfl) Tryz.underlying42 rfl (by kernel_rfl)) rfl ⟨by rw [HF.out]; rfl, H3.below⟩
    · have wn : IntKind.i64.wrap (-c) = -c := IntWalk.i64_in _ (by omega)
      go_wp2_with fail
      have H3 := ((H2.set 1 0 rfl (.int .u8 7)).set 1 1 rfl (.int .i64 (-c))).set 1 2 rfl (.int .i64 c)
      exact bodyPost_ret (res_cell_tmp rfl rfl (H3.range 1 rfl) Tryz.underlying42 rfl (by kernel_rfl)) rfl ⟨by rw [HF.out]; rfl, H3.below⟩

set_option maxHeartbeats 2000000 in
theorem then_no (m n : Mv) (w : World) (hm : m.t ≤ 255) (hn : n.t ≤ 255) (h : (m.ok && n.ok) = false) :
    Calls Tryz.prog 98 #[.agg #[.int .u8 m.t, .int .i64 m.x, .int .i64 m.y], .agg #[.int .u8 n.t, .int .i64 n.x, .int .i64 n.y]] w (RetBelow (mvR (mv0, 1)) w) := by
  obtain ⟨t, x, y⟩ := m
  obtain ⟨u, p, q⟩ := n
  dsimp only at hm hn ⊢
  unfold Mv.ok at h
  dsimp only at h
  have HH := Lib.hid h
  have B1 := Lib.hid (show 0 ≤ (t : Int) ∧ (t : Int) ≤ 255 by omega)
  have B2 := Lib.hid (show 0 ≤ (u : Int) ∧ (u : Int) ≤ 255 by omega)
  have H := (((Bx.start w).new #[.int .u8 t, .int .i64 x, .int .i64 y] 42 rfl).new #[.int .u8 u, .int .i64 p, .int .i64 q] 42 (N := w.heap.size + 1) (by simp)).new #[.int .u8 0, .int .i64 0, .int .i64 0] 42 (N := w.heap.size + 2) (by simp)
  clear h
  go_enter Tryz.func98, Tryz.ntmps98
  go_upto_region 1 with fail
  obtain ⟨W, hW⟩ : ∃ W, W = ((w.alloc (.cells #[.int .u8 t, .int .i64 x, .int .i64 y] 42)).alloc (.cells #[.int .u8 u, .int .i64 p, .int .i64 q] 42)).alloc (.cells #[.int .u8 0, .int .i64 0, .int .i64 0] 42) := ⟨_, rfl⟩
  rw [← hW] at H ⊢
  obtain ⟨N, hN⟩ : ∃ N, N = w.heap.size := ⟨_, rfl⟩
  rw [← hN] at H ⊢
  obtain ⟨P, hP⟩ : ∃ P, P = N + 2 := ⟨_, rfl⟩
  rw [← hP] at H
  rw [show N + 1 + 1 = P from hP.symm]
  clear hW hN hP
  obtain ⟨⟨f0, f1, f2⟩, _⟩ := blk3 (H.blk 0 _ _ _ rfl)
  go_wp2_with fail
  refine (moveCheck_any t x y _ B1.out).mono ?_
  rintro e w2 ⟨rfl, hb⟩
  have H2 := H.call hb
  clear f0 f1 f2 hb H
  obtain ⟨⟨g0, g1, g2⟩, _⟩ := blk3 (H2.blk 1 _ _ _ rfl)
  cases h1 : okM t x y
  · rw [ec_f]
    clear h1
    obtain ⟨⟨c0, c1, c2⟩, d0, d1, d2⟩ := blk3 (H2.blk 2 _ _ _ rfl)
    go_wp2_with fail
    have H3 := ((H2.set 2 0 rfl (.int .u8 0)).set 2 1 rfl (.int .i64 0)).set 2 2 rfl (.int .i64 0)
    exact bodyPost_ret (res_cell_tmp rfl rfl (H3.range 2 rfl) Tryz.underlying42 rfl (by kernel_rfl)) rfl ⟨rfl, H3.below⟩
  · have h2 : okM u p q = false := by have := HH.out; rw [h1] at this; simpa using this
    have HB := Lib.hid h2
    rw [ec_t]
    clear h1 h2
    go_wp2_with fail
    refine (moveCheck_any u p q _ B2.out).mono ?_
    rintro e w3 ⟨rfl, hb⟩
    rw [HB.out, ec_f]
    have H3 := H2.call hb
    clear g0 g1 g2 hb H2
    obtain ⟨⟨c0, c1, c2⟩, d0, d1, d2⟩ := blk3 (H3.blk 2 _ _ _ rfl)
    go_wp2_with fail
    have H4 := ((H3.set 2 0 rfl (.int .u8 0)).set 2 1 rfl (.int .i64 0)).set 2 2 rfl (.int .i64 0)
    exact bodyPost_ret (res_cell_tmp rfl rfl (H4.range 2 rfl) Tryz.underlying42 rfl (by kernel_rfl)) rfl ⟨rfl, H4.below⟩
theorem thenG_any (m n : Mv) (w : World) (hm : m.t ≤ 255) (hn : n.t ≤ 255) (hT : Tn w) :
    Calls Tryz.prog 98 #[.agg #[.int .u8 m.t, .int .i64 m.x, .int .i64 m.y], .agg #[.int .u8 n.t, .int .i64 n.x, .int .i64 n.y]] w (RetBelow (mvR (thenG m n)) w) := by
  unfold thenG
  cases h : (m.ok && n.ok)
  · exact then_no m n w hm hn h
  · obtain ⟨h1, h2⟩ := Bool.and_eq_true_iff.1 h
    exact then_ok m n w h1 h2 hT

def ptR (x y e : Int) : Value := .tuple #[.agg #[.int .i64 x, .int .i64 y], .int .i64 e]

set_option maxRecDepth 100000 in
set_option maxHeartbeats 4000000 in
/-- A valid move moves a point that is not too far away. -/
theorem point_ok (m : Mv) (p q : Int) (w : World) (hm : m.ok = true) (hp : -10000 ≤ p ∧ p ≤ 10000) (hq : -10000 ≤ q ∧ q ≤ 10000) (hT : Tn w) :
    Calls Tryz.prog 216 #[.agg #[.int .u8 m.t, .int .i64 m.x, .int .i64 m.y], .agg #[.int .i64 p, .int .i64 q]] w (RetBelow (ptR (pointM m p q).1 (pointM m p q).2 0) w) := by
  obtain ⟨⟨X, Y⟩, hR⟩ : ∃ R, pointM m p q = R := ⟨_, rfl⟩
  rw [hR]
  dsimp only
  obtain ⟨m1, ⟨m2, m3⟩, ⟨m4, m5⟩, _⟩ := Mv.ok_iff.1 hm
  obtain ⟨t, x, y⟩ := m
  dsimp only at m1 m2 m3 m4 m5 ⊢
  have hOf := fun w => of_any t p q w (by omega) (by omega)
  obtain ⟨⟨ob1, ob2⟩, ob3, ob4⟩ := matOf_bd t (x := p) (y := q) (B := 10000) hp hq
  unfold pointM at hR
  dsimp only at hR
  obtain ⟨⟨sx, sy⟩, hs⟩ : ∃ s, matOf (mat t) p q = s := ⟨_, rfl⟩
  rw [hs] at hOf hR ob1 ob2 ob3 ob4
  dsimp only at hOf hR ob1 ob2 ob3 ob4
  obtain ⟨rfl, rfl⟩ : X = sx + 2 * x ∧ Y = sy + 2 * y := by simp at hR; omega
  obtain ⟨⟨a1, a2, a3, a4⟩, hat⟩ : ∃ z, mat t = z := ⟨_, rfl⟩
  have hct := fun (w' : World) (h : Tn w') => h.at' t m1
  rw [hat] at hOf hct
  dsimp only at hct hOf
  have e1 : okM t x y = true := hm
  have e2 : okP p q = true := okP_iff.2 (by omega)
  have e3 : okP (sx + 2 * x) (sy + 2 * y) = true := okP_iff.2 (by omega)
  have E1 := Lib.hid e1
  have E2 := Lib.hid e2
  have E3 := Lib.hid e3
  have HOF := Lib.hid hOf
  have HCT := Lib.hid hct
  have B1 := Lib.hid (show 0 ≤ (t : Int) ∧ (t : Int) ≤ 255 by omega)
  have q1 : (t : Int) < 8 := by omega
  have H := (((Bx.start w).new #[.int .u8 t, .int .i64 x, .int .i64 y] 42 rfl).new #[.int .i64 p, .int .i64 q] 326 (N := w.heap.size + 1) (by simp)).new #[.int .i64 0, .int .i64 0] 326 (N := w.heap.size + 2) (by simp)
  have HT := Lib.hid hT
  clear hR hOf hct e1 e2 e3 hm hs hat hT
  go_enter Tryz.func216, Tryz.ntmps216
  go_upto_region 1 with fail
  obtain ⟨W, hW⟩ : ∃ W, W = ((w.alloc (.cells #[.int .u8 t, .int .i64 x, .int .i64 y] 42)).alloc (.cells #[.int .i64 p, .int .i64 q] 326)).alloc (.cells #[.int .i64 0, .int .i64 0] 326) := ⟨_, rfl⟩
  rw [← hW] at H ⊢
  obtain ⟨N, hN⟩ : ∃ N, N = w.heap.size := ⟨_, rfl⟩
  rw [← hN] at H ⊢
  obtain ⟨P, hP⟩ : ∃ P, P = N + 2 := ⟨_, rfl⟩
  rw [← hP] at H
  rw [show N + 1 + 1 = P from hP.symm]
  clear hW hN hP
  obtain ⟨⟨f0, f1, f2⟩, _⟩ := blk3 (H.blk 0 _ _ _ rfl)
  go_wp2_with fail
  refine (moveCheck_any t x y _ B1.out).mono ?_
  rintro e w2 ⟨rfl, hb⟩
  rw [E1.out, ec_t]
  have H2 := H.call hb
  clear f0 f1 f2 hb H
  obtain ⟨⟨g0, g1⟩, _⟩ := blk2 (H2.blk 1 _ _ _ rfl)
  go_wp2_with fail
  refine (checkPoint_any p q _).mono ?_
  rintro e w3 ⟨rfl, hb⟩
  rw [E2.out, ec_t]
  have H3 := H2.call hb
  clear g0 g1 hb H2
  obtain ⟨⟨f0, f1, f2⟩, _⟩ := blk3 (H3.blk 0 _ _ _ rfl)
  obtain ⟨⟨g0, g1⟩, _⟩ := blk2 (H3.blk 1 _ _ _ rfl)
  have HT3 := HT.out.below H3.below
  obtain ⟨v0, v1, v2, v3⟩ := HCT.out _ HT3
  go_upto_region 3 with fail
  go_region_held3 (fun w' => w'.cell? ⟨N, 0, none⟩ = some (.int .u8 t) ∧ w'.cell? ⟨N + 1, 0, none⟩ = some (.int .i64 p) ∧ w'.cell? ⟨N + 1, 1, none⟩ = some (.int .i64 q) ∧ w'.cell? ⟨4, t * 4, none⟩ = some (.int .i64 a1) ∧ w'.cell? ⟨4, t * 4 + 1, none⟩ = some (.int .i64 a2) ∧ w'.cell? ⟨4, t * 4 + 2, none⟩ = some (.int .i64 a3) ∧ w'.cell? ⟨4, t * 4 + 3, none⟩ = some (.int .i64 a4))
    (first | exact ⟨f0, g0, g1, v0, v1, v2, v3⟩ | go_keep)
    (first | (go_at_call 158; (with_reducible refine (HOF.out _).mono ?_); rintro e w4 ⟨rfl, hb4⟩; have H3 := H3.call (undrew hb4); have f0 := below_cell (undrew hb4) f0; have g0 := below_cell (undrew hb4) g0; have g1 := below_cell (undrew hb4) g1; have v0 := below_cell (undrew hb4) v0; have v1 := below_cell (undrew hb4) v1; have v2 := below_cell (undrew hb4) v2; have v3 := below_cell (undrew hb4) v3) | fail)
  clear f0 f1 f2 g0 g1 v0 v1 v2 v3 HT3
  obtain ⟨⟨f0, f1, f2⟩, _⟩ := blk3 (H3.blk 0 _ _ _ rfl)
  have H4 := H3.new #[.int .i64 (sx + 2 * x), .int .i64 (sy + 2 * y)] 326 rfl
  have k1 : IntKind.i64.wrap (2 * x) = 2 * x := IntWalk.i64_in _ (by omega)
  have k2 : IntKind.i64.wrap (2 * y) = 2 * y := IntWalk.i64_in _ (by omega)
  have k3 : IntKind.i64.wrap (sx + 2 * x) = sx + 2 * x := IntWalk.i64_in _ (by omega)
  have k4 : IntKind.i64.wrap (sy + 2 * y) = sy + 2 * y := IntWalk.i64_in _ (by omega)
  go_wp2_with fail
  refine (checkPoint_any _ _ _).mono ?_
  rintro e w5 ⟨rfl, hb⟩
  rw [E3.out, ec_t]
  have H5 := H4.call hb
  clear f0 f1 f2 hb
  obtain ⟨⟨c0, c1⟩, d0, d1⟩ := blk2 (H5.blk 2 _ _ _ rfl)
  obtain ⟨⟨b0, b1⟩, _⟩ := blk2 (H5.blk 3 _ _ _ rfl)
  go_wp2_with fail
  have H6 := (H5.set 2 0 rfl (.int .i64 (sx + 2 * x))).set 2 1 rfl (.int .i64 (sy + 2 * y))
  exact bodyPost_ret (res_cell_tmp rfl rfl (H6.range 2 rfl) Tryz.underlying326 rfl (by kernel_rfl)) rfl ⟨rfl, H6.below⟩
end Go.Proofs.YtjdmkgnlakonbaaGreatDoor
