/- The contract of cells.Move at valid moves and cells, out of one of cells.moved. -/
import Derived.Test.YtjdmkgnlakonbaaGreatDoorQr
namespace Go.Proofs.YtjdmkgnlakonbaaGreatDoor
open Go.RowKit

/-- What cells.moved does. -/
def MovedOk : Prop := ∀ (m : Mv) (c : Cl) (w : World), m.ok = true → c.ok = true → Qf w → Tn w →
  Calls Tryz.prog 163 #[.agg #[.int .u8 m.t, .int .i64 m.x, .int .i64 m.y], .agg #[.int .i64 c.x, .int .i64 c.y, .int .u8 c.q]] w (RetBelow (.agg #[.int .i64 (movedC m c).x, .int .i64 (movedC m c).y, .int .u8 (movedC m c).q]) w)
def clR (r : Cl × Int) : Value := .tuple #[.agg #[.int .i64 r.1.x, .int .i64 r.1.y, .int .u8 r.1.q], .int .i64 r.2]

set_option maxRecDepth 100000 in
set_option maxHeartbeats 2000000 in
theorem cellMove_ok (hmv : MovedOk) (m : Mv) (c : Cl) (w : World) (hm : m.ok = true) (hc : c.ok = true) (hQ : Qf w) (hT : Tn w) :
    Calls Tryz.prog 99 #[.agg #[.int .u8 m.t, .int .i64 m.x, .int .i64 m.y], .agg #[.int .i64 c.x, .int .i64 c.y, .int .u8 c.q]] w (RetBelow (clR (moveC m c)) w) := by
  have HM := Lib.hid fun w' (hb : Below w.heap.size w w') => hmv m c w' hm hc (hQ.below hb) (hT.below hb)
  have hR : moveC m c = if (movedC m c).ok then (movedC m c, 0) else (cl0, 3) := rfl
  obtain ⟨⟨rx, ry, rq⟩, hd⟩ : ∃ d, movedC m c = d := ⟨_, rfl⟩
  rw [hd] at HM hR
  dsimp only at HM
  obtain ⟨R, hRR⟩ : ∃ R, moveC m c = R := ⟨_, rfl⟩
  rw [hRR] at hR ⊢
  have HR := Lib.hid hR
  obtain ⟨m1, _⟩ := Mv.ok_iff.1 hm
  obtain ⟨t, x, y⟩ := m
  obtain ⟨a, b, q⟩ := c
  dsimp only at m1 HM ⊢
  have E1 : Hid (okM t x y = true) := Lib.hid hm
  have E2 : Hid (okC a b q = true) := Lib.hid hc
  have B1 := Lib.hid (show 0 ≤ (t : Int) ∧ (t : Int) ≤ 255 by omega)
  have H := (((Bx.start w).new #[.int .u8 t, .int .i64 x, .int .i64 y] 42 rfl).new #[.int .i64 a, .int .i64 b, .int .u8 q] 90 (N := w.heap.size + 1) (by simp)).new #[.int .i64 0, .int .i64 0, .int .u8 0] 90 (N := w.heap.size + 2) (by simp)
  clear hm hc hQ hT hR hd hRR
  go_enter Tryz.func99, Tryz.ntmps99
  go_upto_region 1 with fail
  obtain ⟨W, hW⟩ : ∃ W, W = ((w.alloc (.cells #[.int .u8 t, .int .i64 x, .int .i64 y] 42)).alloc (.cells #[.int .i64 a, .int .i64 b, .int .u8 q] 90)).alloc (.cells #[.int .i64 0, .int .i64 0, .int .u8 0] 90) := ⟨_, rfl⟩
  rw [← hW] at H ⊢
  obtain ⟨N, hN⟩ : ∃ N, N = w.heap.size := ⟨_, rfl⟩
  rw [← hN] at H ⊢
  obtain ⟨P, hP⟩ : ∃ P, P = N + 2 := ⟨_, rfl⟩
  rw [← hP] at H
  rw [show N + 1 + 1 = P from hP.symm]
  clear hW hN hP
  obtain ⟨⟨f0, f1, f2⟩, _⟩ := blk3 (H.blk 0 _ _ _ rfl)
  go_wp2_with fail
  refine (moveCheck_any t x y _ B1.out).mono ?_
  rintro e w2 ⟨rfl, hb⟩
  rw [E1.out, ec_t]
  have H2 := H.call hb
  clear f0 f1 f2 hb H
  obtain ⟨⟨g0, g1, g2⟩, _⟩ := blk3 (H2.blk 1 _ _ _ rfl)
  go_wp2_with fail
  refine (cellCheck_any a b q _).mono ?_
  rintro e w3 ⟨rfl, hb⟩
  rw [E2.out, ec_t]
  have H3 := H2.call hb
  clear g0 g1 g2 hb H2
  obtain ⟨⟨f0, f1, f2⟩, _⟩ := blk3 (H3.blk 0 _ _ _ rfl)
  obtain ⟨⟨g0, g1, g2⟩, _⟩ := blk3 (H3.blk 1 _ _ _ rfl)
  go_wp2_with fail
  refine (HM.out _ H3.below).mono ?_
  rintro e w4 ⟨rfl, hb⟩
  have H4 := H3.call hb
  clear f0 f1 f2 g0 g1 g2 hb H3
  have H5 := H4.new #[.int .i64 rx, .int .i64 ry, .int .u8 rq] 90 rfl
  go_wp2_with fail
  refine (cellCheck_any rx ry rq _).mono ?_
  rintro e w5 ⟨rfl, hb⟩
  have H6 := H5.call hb
  clear hb H5 H4
  obtain ⟨⟨c0, c1, c2⟩, d0, d1, d2⟩ := blk3 (H6.blk 2 _ _ _ rfl)
  obtain ⟨⟨b0, b1, b2⟩, _⟩ := blk3 (H6.blk 3 _ _ _ rfl)
  cases hk : okC rx ry rq
  · have HK : Hid ((⟨rx, ry, rq⟩ : Cl).ok = false) := Lib.hid hk
    rw [ec_f]
    clear hk
    go_wp2_with fail
    have H7 := ((H6.set 2 0 rfl (.int .i64 0)).set 2 1 rfl (.int .i64 0)).set 2 2 rfl (.int .u8 0)
    exact bodyPost_ret (res_cell_tmp rfl rfl (H7.range 2 rfl) Tryz.underlying90 rfl (by kernel_rfl)) rfl ⟨by rw [HR.out, HK.out]; rfl, H7.below⟩
  · have HK : Hid ((⟨rx, ry, rq⟩ : Cl).ok = true) := Lib.hid hk
    rw [ec_t]
    clear hk
    go_wp2_with fail
    have H7 := ((H6.set 2 0 rfl (.int .i64 rx)).set 2 1 rfl (.int .i64 ry)).set 2 2 rfl (.int .u8 rq)
    exact bodyPost_ret (res_cell_tmp rfl rfl (H7.range 2 rfl) Tryz.underlying90 rfl (by kernel_rfl)) rfl ⟨by rw [HR.out, HK.out]; rfl, H7.below⟩
end Go.Proofs.YtjdmkgnlakonbaaGreatDoor
