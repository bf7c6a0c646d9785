/- Contracts of package moves: beyond, Check, Identity, of, then, number. -/
import Derived.Test.YtjdmkgnlakonbaaGreatDoorLin
namespace Go.Proofs.YtjdmkgnlakonbaaGreatDoor
open Go.RowKit

/-- Of a row of calls in a region: the world's old memory. -/
def matV (m : Int × Int × Int × Int) : Value := .agg #[.int .i64 m.1, .int .i64 m.2.1, .int .i64 m.2.2.1, .int .i64 m.2.2.2]
/-- The table moves.turns lies as the text lays it. -/
structure Tn (w : World) : Prop where
  lt : 4 < w.heap.size
  at' : ∀ t, t < 8 → w.cell? ⟨4, t * 4, none⟩ = some (.int .i64 (mat t).1) ∧ w.cell? ⟨4, t * 4 + 1, none⟩ = some (.int .i64 (mat t).2.1) ∧ w.cell? ⟨4, t * 4 + 2, none⟩ = some (.int .i64 (mat t).2.2.1) ∧ w.cell? ⟨4, t * 4 + 3, none⟩ = some (.int .i64 (mat t).2.2.2)
theorem Tn.below {w w' : World} (h : Tn w) (hb : Below w.heap.size w w') : Tn w' :=
  ⟨Nat.lt_of_lt_of_le h.lt hb.size, fun t ht => by
    obtain ⟨h1, h2, h3, h4⟩ := h.at' t ht
    exact ⟨below_cell hb h1, below_cell hb h2, below_cell hb h3, below_cell hb h4⟩⟩

set_option maxHeartbeats 400000 in
theorem beyond_any (n : Int) (w : World) : Calls Tryz.prog 152 #[.int .i64 n] w (RetBelow (.bool (!nearB n)) w) := by
  obtain ⟨R, hR⟩ : ∃ R, (!nearB n) = R := ⟨_, rfl⟩
  rw [hR]
  have HR := Lib.hid hR
  clear hR
  go_enter Tryz.func152, Tryz.ntmps152
  go_wp2_with fail
  all_goals go_ret
  all_goals refine ⟨ret_bool ?_, Below.refl _ _⟩
  all_goals rw [← HR.out]; unfold nearB
  all_goals first
    | (rw [decide_eq_false (show ¬ -16384 ≤ n by omega)]; simp <;> omega)
    | (rw [decide_eq_true (show -16384 ≤ n by omega)]; by_cases h : n ≤ 16384 <;> simp [h] <;> omega)

theorem tmod2 {x y : Int} : ((x + y).tmod 2 = 0) ↔ (x + y) % 2 = 0 := by
  rw [Int.tmod_eq_emod]; split <;> omega
theorem tmod2_bd (x : Int) : -2 < x.tmod 2 ∧ x.tmod 2 < 2 := by
  rw [Int.tmod_eq_emod]; split <;> omega

set_option maxRecDepth 100000 in
set_option maxHeartbeats 2000000 in
theorem moveCheck_any (t x y : Int) (w : World) (ht : 0 ≤ t ∧ t ≤ 255) : Calls Tryz.prog 95 #[.agg #[.int .u8 t, .int .i64 x, .int .i64 y]] w (RetBelow (.int .i64 (ec (okM t x y) 1)) w) := by
  obtain ⟨R, hR⟩ : ∃ R, okM t x y = R := ⟨_, rfl⟩
  rw [hR]
  have HR := Lib.hid hR
  obtain ⟨t0, t1⟩ := ht
  have H := (Bx.start w).new #[.int .u8 t, .int .i64 x, .int .i64 y] 42 rfl
  have c1 : IntKind.i64.wrap t = t := IntWalk.i64_in _ (by omega)
  clear hR
  go_enter Tryz.func95, Tryz.ntmps95
  go_upto_region 1 with fail
  obtain ⟨W, hW⟩ : ∃ W, W = w.alloc (.cells #[.int .u8 t, .int .i64 x, .int .i64 y] 42) := ⟨_, rfl⟩
  rw [← hW] at H ⊢
  obtain ⟨N, hN⟩ : ∃ N, N = w.heap.size := ⟨_, rfl⟩
  rw [← hN] at H ⊢
  clear hW hN
  obtain ⟨⟨a0, a1, a2⟩, _⟩ := blk3 (H.blk 0 _ _ _ rfl)
  by_cases h8 : t < 8
  · cases hx : nearB x
    · have hfin : R = false := by rw [← HR.out]; unfold okM; rw [hx]; simp
      have HX := Lib.hid hx
      clear hx
      go_wp2_with fail
      refine (beyond_any x _).mono ?_
      rintro e w2 ⟨rfl, hb⟩
      rw [HX.out]
      have H2 := H.call hb
      clear a0 a1 a2 hb
      go_wp2_with fail
      go_ret
      exact ⟨ret_int (by first | rfl | (rw [hfin]; rfl)), H2.below⟩
    · have HX := Lib.hid hx
      obtain ⟨x1, x2⟩ : -16384 ≤ x ∧ x ≤ 16384 := by simpa [nearB] using hx
      clear hx
      cases hy : nearB y
      · have hfin : R = false := by rw [← HR.out]; unfold okM; rw [hy]; simp
        have HY := Lib.hid hy
        clear hy
        go_wp2_with fail
        refine (beyond_any x _).mono ?_
        rintro e w2 ⟨rfl, hb⟩
        rw [HX.out]
        have H2 := H.call hb
        obtain ⟨⟨b0, b1, b2⟩, _⟩ := blk3 (H2.blk 0 _ _ _ rfl)
        clear a0 a1 a2 hb
        go_wp2_with fail
        refine (beyond_any y _).mono ?_
        rintro e w3 ⟨rfl, hb⟩
        rw [HY.out]
        have H3 := H2.call hb
        clear b0 b1 b2 hb
        go_wp2_with fail
        go_ret
        exact ⟨ret_int (by first | rfl | (rw [hfin]; rfl)), H3.below⟩
      · have HY := Lib.hid hy
        obtain ⟨y1, y2⟩ : -16384 ≤ y ∧ y ≤ 16384 := by simpa [nearB] using hy
        clear hy
        have w1 : IntKind.i64.wrap (x + y) = x + y := IntWalk.i64_in _ (by omega)
        have w2' : IntKind.i64.wrap ((x + y).tmod 2) = (x + y).tmod 2 := IntWalk.i64_in _ (by have := tmod2_bd (x + y); omega)
        obtain ⟨z, hz⟩ : ∃ z, (x + y).tmod 2 = z := ⟨_, rfl⟩
        have hfin : R = decide (z = 0) := by
          rw [← HR.out]; unfold okM; rw [HX.out, HY.out, decide_eq_true h8, ← hz]
          simp only [Bool.true_and, Bool.and_true, tmod2]
        have HF := Lib.hid hfin
        rw [hz] at w2'
        clear hfin
        go_wp2_with fail
        refine (beyond_any x _).mono ?_
        rintro e w2 ⟨rfl, hb⟩
        rw [HX.out]
        have H2 := H.call hb
        obtain ⟨⟨b0, b1, b2⟩, _⟩ := blk3 (H2.blk 0 _ _ _ rfl)
        clear a0 a1 a2 hb
        go_wp2_with fail
        refine (beyond_any y _).mono ?_
        rintro e w3 ⟨rfl, hb⟩
        rw [HY.out]
        have H3 := H2.call hb
        obtain ⟨⟨d0, d1, d2⟩, _⟩ := blk3 (H3.blk 0 _ _ _ rfl)
        clear b0 b1 b2 hb
        by_cases h0 : z = 0
        · have hb0 : (z != 0) = false := by simpa using h0
          go_wp2_with fail
          go_ret
          exact ⟨ret_int (by rw [HF.out, decide_eq_true h0]; rfl), H3.below⟩
        · have hb0 : (z != 0) = true := by simpa using h0
          go_wp2_with fail
          go_ret
          exact ⟨ret_int (by rw [HF.out, decide_eq_false h0]; rfl), H3.below⟩
  · have hfin : R = false := by rw [← HR.out]; unfold okM; rw [decide_eq_false h8]; simp
    have h8' : (8 : Int) ≤ t := by omega
    go_wp2_with fail
    go_ret
    exact ⟨ret_int (by first | rfl | (rw [hfin]; rfl)), H.below⟩

theorem identity_any (w : World) : Calls Tryz.prog 31 #[] w (RetBelow mv0.v w) := by
  have H := (Bx.start w).new #[.int .u8 0, .int .i64 0, .int .i64 0] 42 rfl
  go_enter Tryz.func31, Tryz.ntmps31
  go_wp2_with fail
  refine bodyPost_ret (v := mv0.v) (by simp [results, Tryz.results31, go_sem, Mv.v, mv0]) rfl ⟨rfl, ?_⟩
  repeat' (first | exact Below.refl _ _ | refine Below.setCell ?_ (by simp) _ | refine Below.alloc ?_ (by simp) _)

set_option maxHeartbeats 1000000 in
theorem of_gen (a b c d x y : Int) (w : World) (h1 : IntKind.i64.wrap (a * x) = a * x) (h2 : IntKind.i64.wrap (b * y) = b * y) (h3 : IntKind.i64.wrap (a * x + b * y) = a * x + b * y)
    (h4 : IntKind.i64.wrap (c * x) = c * x) (h5 : IntKind.i64.wrap (d * y) = d * y) (h6 : IntKind.i64.wrap (c * x + d * y) = c * x + d * y) :
    Calls Tryz.prog 158 #[.agg #[.int .i64 a, .int .i64 b, .int .i64 c, .int .i64 d], .int .i64 x, .int .i64 y] w (RetBelow (.tuple #[.int .i64 (a * x + b * y), .int .i64 (c * x + d * y)]) w) := by
  go_enter Tryz.func158, Tryz.ntmps158
  go_wp2_with fail
  go_quiet (fail)
  go_wp2_with fail
  go_ret2
  exact ⟨rfl, below_drewN ((Below.refl _ _).alloc (Nat.le_refl _) _) _⟩

theorem Tn.cells {w : World} (h : Tn w) : w.cell? ⟨4, 0, none⟩ = some (.int .i64 1) ∧ w.cell? ⟨4, 1, none⟩ = some (.int .i64 0) ∧ w.cell? ⟨4, 2, none⟩ = some (.int .i64 0) ∧ w.cell? ⟨4, 3, none⟩ = some (.int .i64 1) ∧ w.cell? ⟨4, 4, none⟩ = some (.int .i64 0) ∧ w.cell? ⟨4, 5, none⟩ = some (.int .i64 (-1)) ∧ w.cell? ⟨4, 6, none⟩ = some (.int .i64 1) ∧ w.cell? ⟨4, 7, none⟩ = some (.int .i64 0) ∧ w.cell? ⟨4, 8, none⟩ = some (.int .i64 (-1)) ∧ w.cell? ⟨4, 9, none⟩ = some (.int .i64 0) ∧ w.cell? ⟨4, 10, none⟩ = some (.int .i64 0) ∧ w.cell? ⟨4, 11, none⟩ = some (.int .i64 (-1)) ∧ w.cell? ⟨4, 12, none⟩ = some (.int .i64 0) ∧ w.cell? ⟨4, 13, none⟩ = some (.int .i64 1) ∧ w.cell? ⟨4, 14, none⟩ = some (.int .i64 (-1)) ∧ w.cell? ⟨4, 15, none⟩ = some (.int .i64 0) ∧ w.cell? ⟨4, 16, none⟩ = some (.int .i64 (-1)) ∧ w.cell? ⟨4, 17, none⟩ = some (.int .i64 0) ∧ w.cell? ⟨4, 18, none⟩ = some (.int .i64 0) ∧ w.cell? ⟨4, 19, none⟩ = some (.int .i64 1) ∧ w.cell? ⟨4, 20, none⟩ = some (.int .i64 0) ∧ w.cell? ⟨4, 21, none⟩ = some (.int .i64 (-1)) ∧ w.cell? ⟨4, 22, none⟩ = some (.int .i64 (-1)) ∧ w.cell? ⟨4, 23, none⟩ = some (.int .i64 0) ∧ w.cell? ⟨4, 24, none⟩ = some (.int .i64 1) ∧ w.cell? ⟨4, 25, none⟩ = some (.int .i64 0) ∧ w.cell? ⟨4, 26, none⟩ = some (.int .i64 0) ∧ w.cell? ⟨4, 27, none⟩ = some (.int .i64 (-1)) ∧ w.cell? ⟨4, 28, none⟩ = some (.int .i64 0) ∧ w.cell? ⟨4, 29, none⟩ = some (.int .i64 1) ∧ w.cell? ⟨4, 30, none⟩ = some (.int .i64 1) ∧ w.cell? ⟨4, 31, none⟩ = some (.int .i64 0) := by
  obtain ⟨a0, a1, a2, a3⟩ := h.at' 0 (by decide)
  obtain ⟨b0, b1, b2, b3⟩ := h.at' 1 (by decide)
  obtain ⟨c0, c1, c2, c3⟩ := h.at' 2 (by decide)
  obtain ⟨d0, d1, d2, d3⟩ := h.at' 3 (by decide)
  obtain ⟨e0, e1, e2, e3⟩ := h.at' 4 (by decide)
  obtain ⟨f0, f1, f2, f3⟩ := h.at' 5 (by decide)
  obtain ⟨g0, g1, g2, g3⟩ := h.at' 6 (by decide)
  obtain ⟨i0, i1, i2, i3⟩ := h.at' 7 (by decide)
  exact ⟨a0, a1, a2, a3, b0, b1, b2, b3, c0, c1, c2, c3, d0, d1, d2, d3, e0, e1, e2, e3, f0, f1, f2, f3, g0, g1, g2, g3, i0, i1, i2, i3⟩

theorem unit_mul {a x B : Int} (ha : -1 ≤ a ∧ a ≤ 1) (hx : -B ≤ x ∧ x ≤ B) : -B ≤ a * x ∧ a * x ≤ B := by
  have : a = -1 ∨ a = 0 ∨ a = 1 := by omega
  rcases this with rfl | rfl | rfl <;> omega
theorem mat_bd (t : Nat) : (-1 ≤ (mat t).1 ∧ (mat t).1 ≤ 1) ∧ (-1 ≤ (mat t).2.1 ∧ (mat t).2.1 ≤ 1) ∧ (-1 ≤ (mat t).2.2.1 ∧ (mat t).2.2.1 ≤ 1) ∧ (-1 ≤ (mat t).2.2.2 ∧ (mat t).2.2.2 ≤ 1) := by
  unfold mat; split <;> decide
/-- A matrix of the table turns two numbers. -/
theorem of_any (t : Nat) (x y : Int) (w : World) (hx : -100000 ≤ x ∧ x ≤ 100000) (hy : -100000 ≤ y ∧ y ≤ 100000) :
    Calls Tryz.prog 158 #[.agg #[.int .i64 (mat t).1, .int .i64 (mat t).2.1, .int .i64 (mat t).2.2.1, .int .i64 (mat t).2.2.2], .int .i64 x, .int .i64 y] w (RetBelow (.tuple #[.int .i64 (matOf (mat t) x y).1, .int .i64 (matOf (mat t) x y).2]) w) := by
  obtain ⟨h1, h2, h3, h4⟩ := mat_bd t
  have a1 := unit_mul h1 hx
  have a2 := unit_mul h2 hy
  have a3 := unit_mul h3 hx
  have a4 := unit_mul h4 hy
  exact of_gen _ _ _ _ x y w (IntWalk.i64_in _ (by omega)) (IntWalk.i64_in _ (by omega)) (IntWalk.i64_in _ (by omega)) (IntWalk.i64_in _ (by omega)) (IntWalk.i64_in _ (by omega)) (IntWalk.i64_in _ (by omega))
theorem matOf_bd (t : Nat) {x y B : Int} (hx : -B ≤ x ∧ x ≤ B) (hy : -B ≤ y ∧ y ≤ B) : (-(2 * B) ≤ (matOf (mat t) x y).1 ∧ (matOf (mat t) x y).1 ≤ 2 * B) ∧ (-(2 * B) ≤ (matOf (mat t) x y).2 ∧ (matOf (mat t) x y).2 ≤ 2 * B) := by
  obtain ⟨h1, h2, h3, h4⟩ := mat_bd t
  have a1 := unit_mul h1 hx
  have a2 := unit_mul h2 hy
  have a3 := unit_mul h3 hx
  have a4 := unit_mul h4 hy
  unfold matOf
  dsimp only
  omega

set_option maxHeartbeats 1000000 in
theorem then_any (s t : Nat) (w : World) :
    Calls Tryz.prog 161 #[.agg #[.int .i64 (mat s).1, .int .i64 (mat s).2.1, .int .i64 (mat s).2.2.1, .int .i64 (mat s).2.2.2], .agg #[.int .i64 (mat t).1, .int .i64 (mat t).2.1, .int .i64 (mat t).2.2.1, .int .i64 (mat t).2.2.2]] w
      (RetBelow (matV (matThen (mat s) (mat t))) w) := by
  obtain ⟨h1, h2, h3, h4⟩ := mat_bd s
  obtain ⟨⟨a, b, c, d⟩, hs⟩ : ∃ m, mat s = m := ⟨_, rfl⟩
  rw [hs] at h1 h2 h3 h4 ⊢
  have O1 := fun w => of_any t a c w (by dsimp only at h1; omega) (by dsimp only at h3; omega)
  have O2 := fun w => of_any t b d w (by dsimp only at h2; omega) (by dsimp only at h4; omega)
  unfold matThen
  dsimp only at h1 h2 h3 h4 ⊢
  obtain ⟨⟨p, r⟩, hp⟩ : ∃ m, matOf (mat t) a c = m := ⟨_, rfl⟩
  obtain ⟨⟨q, u⟩, hq⟩ : ∃ m, matOf (mat t) b d = m := ⟨_, rfl⟩
  obtain ⟨⟨e, f, g, i⟩, hm⟩ : ∃ m, mat t = m := ⟨_, rfl⟩
  rw [hp, hm] at O1
  rw [hq, hm] at O2
  rw [hp, hq, hm]
  dsimp only at O1 O2 ⊢
  have OO1 := Lib.hid O1
  have OO2 := Lib.hid O2
  have H := (((Bx.start w).new #[.int .i64 a, .int .i64 b, .int .i64 c, .int .i64 d] 266 rfl).new #[.int .i64 e, .int .i64 f, .int .i64 g, .int .i64 i] 266 (N := w.heap.size + 1) (by simp)).new #[.int .i64 0, .int .i64 0, .int .i64 0, .int .i64 0] 266 (N := w.heap.size + 2) (by simp)
  clear O1 O2 hp hq hm hs h1 h2 h3 h4
  go_enter Tryz.func161, Tryz.ntmps161
  go_upto_region 1 with fail
  obtain ⟨W, hW⟩ : ∃ W, W = ((w.alloc (.cells #[.int .i64 a, .int .i64 b, .int .i64 c, .int .i64 d] 266)).alloc (.cells #[.int .i64 e, .int .i64 f, .int .i64 g, .int .i64 i] 266)).alloc (.cells #[.int .i64 0, .int .i64 0, .int .i64 0, .int .i64 0] 266) := ⟨_, rfl⟩
  rw [← hW] at H ⊢
  obtain ⟨N, hN⟩ : ∃ N, N = w.heap.size := ⟨_, rfl⟩
  rw [← hN] at H ⊢
  clear hW hN
  obtain ⟨⟨a0, a1, a2, a3⟩, _⟩ := blk4 (H.blk 0 _ _ _ rfl)
  obtain ⟨⟨b0, b1, b2, b3⟩, _⟩ := blk4 (H.blk 1 _ _ _ rfl)
  go_wp2_with fail
  refine (OO1.out _).mono ?_
  rintro e' w2 ⟨rfl, hb⟩
  have H2 := H.call hb
  obtain ⟨⟨c0, c1, c2, c3⟩, _⟩ := blk4 (H2.blk 0 _ _ _ rfl)
  obtain ⟨⟨d0, d1, d2, d3⟩, _⟩ := blk4 (H2.blk 1 _ _ _ rfl)
  clear a0 a1 a2 a3 b0 b1 b2 b3 hb H
  go_wp2_with fail
  refine (OO2.out _).mono ?_
  rintro e' w3 ⟨rfl, hb⟩
  have H3 := H2.call hb
  obtain ⟨⟨e0, e1, e2, e3⟩, f0, f1, f2, f3⟩ := blk4 (H3.blk 2 _ _ _ rfl)
  clear c0 c1 c2 c3 d0 d1 d2 d3 hb H2
  go_wp2_with fail
  have H4 := (((H3.set 2 0 rfl (.int .i64 p)).set 2 1 rfl (.int .i64 q)).set 2 2 rfl (.int .i64 r)).set 2 3 rfl (.int .i64 u)
  exact bodyPost_ret (res_cell rfl rfl (H4.range 2 rfl) Tryz.underlying266 rfl (by kernel_rfl)) rfl ⟨rfl, H4.below⟩
end Go.Proofs.YtjdmkgnlakonbaaGreatDoor
