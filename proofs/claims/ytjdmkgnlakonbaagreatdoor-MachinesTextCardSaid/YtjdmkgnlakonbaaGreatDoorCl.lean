/- Contracts of package cells: order, Compare, middle; of cmp.Compare at ints. -/
import Derived.Test.YtjdmkgnlakonbaaGreatDoorMov4
namespace Go.Proofs.YtjdmkgnlakonbaaGreatDoor
open Go.RowKit

set_option maxHeartbeats 1000000 in
theorem cmpInt_any (a b : Int) (w : World) : Calls Tryz.prog 135 #[.int .i64 a, .int .i64 b] w (RetBelow (.int .i64 (cmpI a b)) w) := by
  obtain ⟨R, hR⟩ : ∃ R, cmpI a b = R := ⟨_, rfl⟩
  rw [hR]
  have HR := Lib.hid hR
  clear hR
  go_enter Tryz.func135, Tryz.ntmps135
  go_wp2_with (go_in)
  all_goals go_ret
  all_goals refine ⟨ret_int ?_, Below.refl _ _⟩
  all_goals rw [← HR.out]
  all_goals first | rw [cmpI_lt (by omega)] | rw [cmpI_gt (by omega)] | rw [cmpI_eq (by omega) (by omega)]

/-- The first number that is not 0. -/
def firstNz (p q r : Int) : Int := if p ≠ 0 then p else if q ≠ 0 then q else r
set_option maxRecDepth 100000 in
set_option maxHeartbeats 4000000 in
theorem order3_any (g cp : Nat) (a0 b0 a1 b1 a2 b2 : Int) (w : World) (h : w.rangeAt g 0 [.int .i64 a0, .int .i64 b0, .int .i64 a1, .int .i64 b1, .int .i64 a2, .int .i64 b2]) :
    Calls Tryz.prog 105 #[.slice (some ⟨g, 0, none⟩) 3 cp] w (RetBelow (.int .i64 (firstNz (cmpI a0 b0) (cmpI a1 b1) (cmpI a2 b2))) w) := by
  obtain ⟨p, hp⟩ : ∃ p, cmpI a0 b0 = p := ⟨_, rfl⟩
  obtain ⟨q, hq⟩ : ∃ q, cmpI a1 b1 = q := ⟨_, rfl⟩
  obtain ⟨r, hr⟩ : ∃ r, cmpI a2 b2 = r := ⟨_, rfl⟩
  rw [hp, hq, hr]
  have P := Lib.hid hp
  have Q := Lib.hid hq
  have R := Lib.hid hr
  have c0 := h 0 _ rfl
  have c1 := h 1 _ rfl
  have c2 := h 2 _ rfl
  have c3 := h 3 _ rfl
  have c4 := h 4 _ rfl
  have c5 := h 5 _ rfl
  simp only [Nat.reduceAdd] at c0 c1 c2 c3 c4 c5
  have hgl : g < w.heap.size := World.block_lt_of_cell? w ⟨g, 0, none⟩ c0
  clear hp hq hr h
  go_enter Tryz.func105, Tryz.ntmps105
  go_wp2_with fail
  go_loopw [8] (fun i wr => ∃ k : Nat, k ≤ 3 ∧ i = .int .i64 k ∧ Below w.heap.size w wr ∧ (1 ≤ k → p = 0) ∧ (2 ≤ k → q = 0) ∧ (k = 3 → r = 0)) (fun i _ => 3 - (intOf i).toNat)
  case atStart => exact ⟨0, by omega, rfl, Below.refl _ _, by omega, by omega, by omega⟩
  case round =>
    obtain ⟨k, hk, rfl, hb, h1, h2, h3⟩ := hrel
    have c0 := below_cell hb c0
    have c1 := below_cell hb c1
    have c2 := below_cell hb c2
    have c3 := below_cell hb c3
    have c4 := below_cell hb c4
    have c5 := below_cell hb c5
    have hgl : g < wr.heap.size := Nat.lt_of_lt_of_le hgl hb.size
    have hs := hb.size
    have h4 : k = 0 ∨ k = 1 ∨ k = 2 ∨ k = 3 := by omega
    rcases h4 with rfl | rfl | rfl | rfl
    · as_aux_lemma =>
        by_cases hz : p = 0
        · go_wp2_with fail
          refine (cmpInt_any a0 b0 _).mono ?_
          rintro e w2 ⟨rfl, hb2⟩
          rw [P.out]
          have hb3 : Below w.heap.size w w2 := (hb.alloc hs _).trans (hb2.mono (by simp; omega))
          have hz' : (p != 0) = false := by simpa using hz
          go_wp2_with fail
          exact ⟨⟨1, by omega, rfl, hb3, fun _ => hz, by omega, by omega⟩, by simp [intOf]⟩
        · go_wp2_with fail
          refine (cmpInt_any a0 b0 _).mono ?_
          rintro e w2 ⟨rfl, hb2⟩
          rw [P.out]
          have hb3 : Below w.heap.size w w2 := (hb.alloc hs _).trans (hb2.mono (by simp; omega))
          have hz' : (p != 0) = true := by simpa using hz
          go_wp2_with fail
          go_ret
          exact ⟨ret_int (by unfold firstNz; rw [if_pos hz]), hb3⟩
    · as_aux_lemma =>
        have hp0 := h1 (by omega)
        by_cases hz : q = 0
        · go_wp2_with fail
          refine (cmpInt_any a1 b1 _).mono ?_
          rintro e w2 ⟨rfl, hb2⟩
          rw [Q.out]
          have hb3 : Below w.heap.size w w2 := (hb.alloc hs _).trans (hb2.mono (by simp; omega))
          have hz' : (q != 0) = false := by simpa using hz
          go_wp2_with fail
          exact ⟨⟨2, by omega, rfl, hb3, fun _ => hp0, fun _ => hz, by omega⟩, by simp [intOf]⟩
        · go_wp2_with fail
          refine (cmpInt_any a1 b1 _).mono ?_
          rintro e w2 ⟨rfl, hb2⟩
          rw [Q.out]
          have hb3 : Below w.heap.size w w2 := (hb.alloc hs _).trans (hb2.mono (by simp; omega))
          have hz' : (q != 0) = true := by simpa using hz
          go_wp2_with fail
          go_ret
          exact ⟨ret_int (by unfold firstNz; rw [if_neg (by simpa using hp0), if_pos hz]), hb3⟩
    · as_aux_lemma =>
        have hp0 := h1 (by omega)
        have hq0 := h2 (by omega)
        by_cases hz : r = 0
        · go_wp2_with fail
          refine (cmpInt_any a2 b2 _).mono ?_
          rintro e w2 ⟨rfl, hb2⟩
          rw [R.out]
          have hb3 : Below w.heap.size w w2 := (hb.alloc hs _).trans (hb2.mono (by simp; omega))
          have hz' : (r != 0) = false := by simpa using hz
          go_wp2_with fail
          exact ⟨⟨3, by omega, rfl, hb3, fun _ => hp0, fun _ => hq0, fun _ => hz⟩, by simp [intOf]⟩
        · go_wp2_with fail
          refine (cmpInt_any a2 b2 _).mono ?_
          rintro e w2 ⟨rfl, hb2⟩
          rw [R.out]
          have hb3 : Below w.heap.size w w2 := (hb.alloc hs _).trans (hb2.mono (by simp; omega))
          have hz' : (r != 0) = true := by simpa using hz
          go_wp2_with fail
          go_ret
          exact ⟨ret_int (by unfold firstNz; rw [if_neg (by simpa using hp0), if_neg (by simpa using hq0)]), hb3⟩
    · as_aux_lemma =>
        have hp0 := h1 (by omega)
        have hq0 := h2 (by omega)
        have hr0 := h3 rfl
        go_wp2_with fail
        go_ret
        exact ⟨ret_int (by first | rfl | simp [firstNz, hp0, hq0, hr0]), hb⟩

set_option maxHeartbeats 1000000 in
theorem compare_any (c d : Cl) (w : World) (hc : c.q ≤ 255) (hd : d.q ≤ 255) : Calls Tryz.prog 60 #[.agg #[.int .i64 c.x, .int .i64 c.y, .int .u8 c.q], .agg #[.int .i64 d.x, .int .i64 d.y, .int .u8 d.q]] w (RetBelow (.int .i64 (cmpC c d)) w) := by
  have hfin : cmpC c d = firstNz (cmpI c.y d.y) (cmpI c.x d.x) (cmpI c.q d.q) := rfl
  rw [hfin]
  obtain ⟨x, y, q⟩ := c
  obtain ⟨x', y', q'⟩ := d
  dsimp only at hc hd ⊢
  have k1 : IntKind.i64.wrap (q : Int) = q := IntWalk.i64_in _ (by omega)
  have k2 : IntKind.i64.wrap (q' : Int) = q' := IntWalk.i64_in _ (by omega)
  have H := ((Bx.start w).new #[.int .i64 x, .int .i64 y, .int .u8 q] 90 rfl).new #[.int .i64 x', .int .i64 y', .int .u8 q'] 90 (N := w.heap.size + 1) (by simp)
  clear hfin
  go_enter Tryz.func60, Tryz.ntmps60
  go_upto_region 1 with fail
  obtain ⟨W, hW⟩ : ∃ W, W = (w.alloc (.cells #[.int .i64 x, .int .i64 y, .int .u8 q] 90)).alloc (.cells #[.int .i64 x', .int .i64 y', .int .u8 q'] 90) := ⟨_, rfl⟩
  rw [← hW] at H ⊢
  obtain ⟨N, hN⟩ : ∃ N, N = w.heap.size := ⟨_, rfl⟩
  rw [← hN] at H ⊢
  clear hW hN
  obtain ⟨⟨a0, a1, a2⟩, _⟩ := blk3 (H.blk 0 _ _ _ rfl)
  obtain ⟨⟨b0, b1, b2⟩, _⟩ := blk3 (H.blk 1 _ _ _ rfl)
  go_wp2_with fail
  have H3 := H.new #[.int .i64 y, .int .i64 y', .int .i64 x, .int .i64 x', .int .i64 q, .int .i64 q'] 201 rfl
  refine (order3_any W.heap.size 3 y y' x x' q q' _ (H3.range 2 rfl)).mono ?_
  rintro e w2 ⟨rfl, hb⟩
  have H4 := H3.call hb
  clear a0 a1 a2 b0 b1 b2
  go_wp2_with fail
  go_ret
  exact ⟨rfl, H4.below⟩

set_option maxHeartbeats 1000000 in
theorem middle_any (c : Cl) (w : World) (hx : -5000 ≤ c.x ∧ c.x ≤ 5000) (hy : -5000 ≤ c.y ∧ c.y ≤ 5000) : Calls Tryz.prog 215 #[.agg #[.int .i64 c.x, .int .i64 c.y, .int .u8 c.q]] w (RetBelow (.agg #[.int .i64 (2 * c.x + 1), .int .i64 (2 * c.y + 1)]) w) := by
  obtain ⟨x, y, q⟩ := c
  dsimp only at hx hy ⊢
  have k1 : IntKind.i64.wrap (2 * x) = 2 * x := IntWalk.i64_in _ (by omega)
  have k2 : IntKind.i64.wrap (2 * y) = 2 * y := IntWalk.i64_in _ (by omega)
  have k3 : IntKind.i64.wrap (2 * x + 1) = 2 * x + 1 := IntWalk.i64_in _ (by omega)
  have k4 : IntKind.i64.wrap (2 * y + 1) = 2 * y + 1 := IntWalk.i64_in _ (by omega)
  have H := ((Bx.start w).new #[.int .i64 x, .int .i64 y, .int .u8 q] 90 rfl).new #[.int .i64 0, .int .i64 0] 326 (N := w.heap.size + 1) (by simp)
  go_enter Tryz.func215, Tryz.ntmps215
  go_upto_region 1 with fail
  obtain ⟨W, hW⟩ : ∃ W, W = (w.alloc (.cells #[.int .i64 x, .int .i64 y, .int .u8 q] 90)).alloc (.cells #[.int .i64 0, .int .i64 0] 326) := ⟨_, rfl⟩
  rw [← hW] at H ⊢
  obtain ⟨N, hN⟩ : ∃ N, N = w.heap.size := ⟨_, rfl⟩
  rw [← hN] at H ⊢
  clear hW hN
  obtain ⟨⟨a0, a1, a2⟩, _⟩ := blk3 (H.blk 0 _ _ _ rfl)
  obtain ⟨⟨b0, b1⟩, c0, c1⟩ := blk2 (H.blk 1 _ _ _ rfl)
  go_wp2_with fail
  have H4 := (H.set 1 0 rfl (.int .i64 (2 * x + 1))).set 1 1 rfl (.int .i64 (2 * y + 1))
  exact bodyPost_ret (res_cell rfl rfl (H4.range 1 rfl) Tryz.underlying326 rfl (by kernel_rfl)) rfl ⟨rfl, H4.below⟩
end Go.Proofs.YtjdmkgnlakonbaaGreatDoor
