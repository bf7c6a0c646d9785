/- The contract of cells.Side at valid lines and cells. -/
import Derived.Test.YtjdmkgnlakonbaaGreatDoorQr
namespace Go.Proofs.YtjdmkgnlakonbaaGreatDoor
open Go.RowKit

theorem ptIx0 (a b c d e f : Value) (w : World) : (Instr.index 340 (.agg #[a, b, c, d, e, f]) (.int .i64 0)).run Tryz.prog w = .ok (.agg #[a, b]) w := by kernel_rfl
theorem ptIx1 (a b c d e f : Value) (w : World) : (Instr.index 340 (.agg #[a, b, c, d, e, f]) (.int .i64 1)).run Tryz.prog w = .ok (.agg #[c, d]) w := by kernel_rfl
theorem ptIx2 (a b c d e f : Value) (w : World) : (Instr.index 340 (.agg #[a, b, c, d, e, f]) (.int .i64 2)).run Tryz.prog w = .ok (.agg #[e, f]) w := by kernel_rfl
theorem sideP_bd (k c x y : Int) : -1 ≤ sideP k c x y ∧ sideP k c x y ≤ 1 := by
  unfold sideP; split
  · decide
  · split <;> decide

set_option maxRecDepth 100000 in
set_option maxHeartbeats 4000000 in
theorem cellSide_ok (k c : Int) (e : Cl) (w : World) (hl : okL k c = true) (he : e.ok = true) (hQ : Qf w) :
    Calls Tryz.prog 174 #[.agg #[.int .u8 k, .int .i64 c], .agg #[.int .i64 e.x, .int .i64 e.y, .int .u8 e.q]] w (RetBelow (.tuple #[.int .i64 (sideC k c e), .int .i64 0]) w) := by
  obtain ⟨R, hR⟩ : ∃ R, sideC k c e = R := ⟨_, rfl⟩
  rw [hR]
  have hk := (okL_iff.1 hl).1
  have hco := fun w hQ => corners_ok e w he hQ
  unfold Cl.ok at he
  obtain ⟨c1, c2, c3, c4, c5⟩ := okC_iff.1 he
  obtain ⟨x, y, q⟩ := e
  dsimp only at c1 c2 c3 c4 c5 hco ⊢
  unfold sideC at hR
  unfold cornersV at hco
  dsimp only at hR hco
  obtain ⟨⟨o1, o2⟩, ⟨o3, o4⟩, ⟨o5, o6⟩, o7, o8⟩ := q_bd q
  obtain ⟨⟨u1, u2⟩, h1⟩ : ∃ z, qone q = z := ⟨_, rfl⟩
  obtain ⟨⟨v1, v2⟩, h2⟩ : ∃ z, qtwo q = z := ⟨_, rfl⟩
  rw [h1] at o1 o2 o3 o4 hco hR
  rw [h2] at o5 o6 o7 o8 hco hR
  dsimp only at o1 o2 o3 o4 o5 o6 o7 o8 hco hR
  have sd : ∀ a b : Int, -10000 ≤ a → a ≤ 10000 → -10000 ≤ b → b ≤ 10000 → sideL k c a b = sideP k c a b := fun a b p1 p2 p3 p4 => by
    unfold sideL; rw [hl, okP_iff.2 (by omega)]; rfl
  obtain ⟨p0, hp0⟩ : ∃ p, p = 2 * x + 1 := ⟨_, rfl⟩
  obtain ⟨p1, hp1⟩ : ∃ p, p = 2 * y + 1 := ⟨_, rfl⟩
  obtain ⟨p2, hp2⟩ : ∃ p, p = 2 * x + u1 := ⟨_, rfl⟩
  obtain ⟨p3, hp3⟩ : ∃ p, p = 2 * y + u2 := ⟨_, rfl⟩
  obtain ⟨p4, hp4⟩ : ∃ p, p = 2 * x + v1 := ⟨_, rfl⟩
  obtain ⟨p5, hp5⟩ : ∃ p, p = 2 * y + v2 := ⟨_, rfl⟩
  rw [← hp0, ← hp1, ← hp2, ← hp3, ← hp4, ← hp5] at hR hco
  have sA := sd p0 p1 (by omega) (by omega) (by omega) (by omega)
  have sB := sd p2 p3 (by omega) (by omega) (by omega) (by omega)
  have sC := sd p4 p5 (by omega) (by omega) (by omega) (by omega)
  have bA := sideP_bd k c p0 p1
  have bB := sideP_bd k c p2 p3
  have bC := sideP_bd k c p4 p5
  obtain ⟨a, ha⟩ : ∃ z, sideP k c p0 p1 = z := ⟨_, rfl⟩
  obtain ⟨b, hb⟩ : ∃ z, sideP k c p2 p3 = z := ⟨_, rfl⟩
  obtain ⟨d, hd⟩ : ∃ z, sideP k c p4 p5 = z := ⟨_, rfl⟩
  rw [ha] at sA bA hR
  rw [hb] at sB bB hR
  rw [hd] at sC bC hR
  have hk0 : 0 ≤ k := by omega
  have SA := Lib.hid fun w => side_any k c p0 p1 w hk0
  have SB := Lib.hid fun w => side_any k c p2 p3 w hk0
  have SC := Lib.hid fun w => side_any k c p4 p5 w hk0
  rw [sA] at SA
  rw [sB] at SB
  rw [sC] at SC
  have HCO := Lib.hid hco
  have HL := Lib.hid hl
  have HR := Lib.hid hR
  have HQ := Lib.hid hQ
  obtain ⟨bA1, bA2⟩ := bA
  obtain ⟨bB1, bB2⟩ := bB
  obtain ⟨bC1, bC2⟩ := bC
  have H := ((Bx.start w).new #[.int .u8 k, .int .i64 c] 59 rfl).new #[.int .i64 x, .int .i64 y, .int .u8 q] 90 (N := w.heap.size + 1) (by simp)
  clear hl hQ hR hco sd hp0 hp1 hp2 hp3 hp4 hp5 sA sB sC ha hb hd h1 h2 he o1 o2 o3 o4 o5 o6 o7 o8
  go_enter Tryz.func174, Tryz.ntmps174
  go_upto_region 1 with fail
  obtain ⟨W, hW⟩ : ∃ W, W = (w.alloc (.cells #[.int .u8 k, .int .i64 c] 59)).alloc (.cells #[.int .i64 x, .int .i64 y, .int .u8 q] 90) := ⟨_, rfl⟩
  rw [← hW] at H ⊢
  obtain ⟨N, hN⟩ : ∃ N, N = w.heap.size := ⟨_, rfl⟩
  rw [← hN] at H ⊢
  clear hW hN
  obtain ⟨⟨a0, a1, a2⟩, _⟩ := blk3 (H.blk 1 _ _ _ rfl)
  go_wp2_with fail
  refine (HCO.out _ (HQ.out.below H.below)).mono ?_
  rintro e w2 ⟨rfl, hb⟩
  have H2 := H.call hb
  clear a0 a1 a2 hb H
  go_upto_region 2 with fail
  obtain ⟨G, hG⟩ : ∃ G, G = w2.heap.size := ⟨_, rfl⟩
  rw [← hG]
  have H3 := H2.new #[.int .i64 p0, .int .i64 p1, .int .i64 p2, .int .i64 p3, .int .i64 p4, .int .i64 p5] 340 hG.symm
  obtain ⟨W3, hW3⟩ : ∃ W, W = w2.alloc (.cells #[.int .i64 p0, .int .i64 p1, .int .i64 p2, .int .i64 p3, .int .i64 p4, .int .i64 p5] 340) := ⟨_, rfl⟩
  rw [← hW3] at H3 ⊢
  clear hG hW3
  obtain ⟨⟨a0, a1⟩, _⟩ := blk2 (H3.blk 0 _ _ _ rfl)
  go_wp2_with fail
  refine (lineCheck_any k c _).mono ?_
  rintro e w4 ⟨rfl, hb⟩
  rw [HL.out, ec_t]
  have H4 := H3.call hb
  clear a0 a1 hb
  obtain ⟨⟨d0, d1, d2, d3, d4, d5⟩, _⟩ := blk6 (H4.blk 2 _ _ _ rfl)
  go_wp2_with fail
  clear d0 d1 d2 d3 d4 d5
  go_loopw [23] (fun i wr => ∃ n : Nat, n ≤ 3 ∧ i = .int .i64 n ∧ Bx w [(N, #[.int .u8 k, .int .i64 c], 59), (N + 1, #[.int .i64 x, .int .i64 y, .int .u8 q], 90), (G, #[.int .i64 p0, .int .i64 p1, .int .i64 p2, .int .i64 p3, .int .i64 p4, .int .i64 p5], 340)] wr ∧ (1 ≤ n → a ≠ 1) ∧ (2 ≤ n → b ≠ 1) ∧ (n = 3 → d ≠ 1)) (fun i _ => 3 - (intOf i).toNat)
  case atStart => exact ⟨0, by omega, rfl, H4, by omega, by omega, by omega⟩
  case round =>
    obtain ⟨n, hn, rfl, Hr, g1, g2, g3⟩ := hrel
    obtain ⟨⟨a0, a1⟩, _⟩ := blk2 (Hr.blk 0 _ _ _ rfl)
    have hlt := Hr.lt 0 rfl
    have i0 := ptIx0
    have i1 := ptIx1
    have i2 := ptIx2
    have h4 : n = 0 ∨ n = 1 ∨ n = 2 ∨ n = 3 := by omega
    rcases h4 with rfl | rfl | rfl | rfl
    · as_aux_lemma =>
        go_wp2_with fail
        refine (SA.out _).mono ?_
        rintro e w5 ⟨rfl, hb⟩
        have H5 := (Hr.other _).call hb
        by_cases hz : 0 < a
        · have ha1 : a = 1 := by omega
          go_wp2_with fail
          go_ret2
          exact ⟨by rw [← HR.out, if_pos (.inl ha1)]; rfl, H5.below⟩
        · go_wp2_with fail
          exact ⟨⟨1, by omega, rfl, H5, by omega, by omega, by omega⟩, by simp [intOf]⟩
    · as_aux_lemma =>
        have e1 := g1 (by omega)
        go_wp2_with fail
        refine (SB.out _).mono ?_
        rintro e w5 ⟨rfl, hb⟩
        have H5 := (Hr.other _).call hb
        by_cases hz : 0 < b
        · have ha1 : b = 1 := by omega
          go_wp2_with fail
          go_ret2
          exact ⟨by rw [← HR.out, if_pos (.inr (.inl ha1))]; rfl, H5.below⟩
        · go_wp2_with fail
          exact ⟨⟨2, by omega, rfl, H5, fun _ => e1, by omega, by omega⟩, by simp [intOf]⟩
    · as_aux_lemma =>
        have e1 := g1 (by omega)
        have e2 := g2 (by omega)
        go_wp2_with fail
        refine (SC.out _).mono ?_
        rintro e w5 ⟨rfl, hb⟩
        have H5 := (Hr.other _).call hb
        by_cases hz : 0 < d
        · have ha1 : d = 1 := by omega
          go_wp2_with fail
          go_ret2
          exact ⟨by rw [← HR.out, if_pos (.inr (.inr ha1))]; rfl, H5.below⟩
        · go_wp2_with fail
          exact ⟨⟨3, by omega, rfl, H5, fun _ => e1, fun _ => e2, by omega⟩, by simp [intOf]⟩
    · as_aux_lemma =>
        have e1 := g1 (by omega)
        have e2 := g2 (by omega)
        have e3 := g3 rfl
        go_wp2_with fail
        go_ret2
        exact ⟨by rw [← HR.out, if_neg (by simp [e1, e2, e3])]; rfl, Hr.below⟩
end Go.Proofs.YtjdmkgnlakonbaaGreatDoor
