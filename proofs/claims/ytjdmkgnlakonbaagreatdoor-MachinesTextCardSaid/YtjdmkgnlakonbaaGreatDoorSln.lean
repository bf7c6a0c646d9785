/- Contracts of sheets.Count, and of named and Line at units that there are. -/
import Derived.Test.YtjdmkgnlakonbaaGreatDoorLne
import Derived.Test.YtjdmkgnlakonbaaGreatDoorShe2
import Derived.Test.YtjdmkgnlakonbaaGreatDoorSp2
namespace Go.Proofs.YtjdmkgnlakonbaaGreatDoor
open Go.RowKit

theorem name_has {a b c e : Int} (h : nameI a b c e = (c, e, 0)) : hasI a b c = true := by
  unfold nameI at h
  split at h
  · rename_i h0
    cases hh : hasI a b c with
    | true => rfl
    | false => unfold nbI at h0; rw [if_pos hh] at h0; simp at h0
  · rename_i h0
    simp at h
    exact absurd h.2.2 h0

set_option maxHeartbeats 1000000 in
theorem count_any (a b : Int) (w : World) (hs : okS a b = true) : Calls Tryz.prog 123 #[.agg #[.int .i64 a, .int .i64 b]] w (RetBelow (.int .i64 (countN a b)) w) := by
  obtain ⟨m1, m2, m3, m4, m5, m6⟩ := mul_bd hs
  have e0 : 4 * a * b = 4 * (a * b) := Int.mul_assoc _ _ _
  obtain ⟨m, hm⟩ : ∃ m, 4 * a * b = m := ⟨_, rfl⟩
  have hfin : (countN a b : Int) = m := by unfold countN; rw [hm]; omega
  rw [hfin]
  have HM := Lib.hid hm
  have HS := Lib.hid hs
  have k1 : IntKind.i64.wrap (4 * a) = 4 * a := IntWalk.i64_in _ (by omega)
  have k2 : IntKind.i64.wrap (4 * a * b) = m := by rw [IntWalk.i64_in _ (by omega)]; exact hm
  have H := (Bx.start w).new #[.int .i64 a, .int .i64 b] 37 rfl
  clear hm hs hfin e0 m1 m2 m3 m4 m5 m6
  go_enter Tryz.func123, Tryz.ntmps123
  go_upto_region 1 with fail
  obtain ⟨W, hW⟩ : ∃ W, W = w.alloc (.cells #[.int .i64 a, .int .i64 b] 37) := ⟨_, rfl⟩
  rw [← hW] at H ⊢
  obtain ⟨N, hN⟩ : ∃ N, N = w.heap.size := ⟨_, rfl⟩
  rw [← hN] at H ⊢
  clear hW hN
  obtain ⟨⟨a0, a1⟩, _⟩ := blk2 (H.blk 0 _ _ _ rfl)
  go_wp2_with fail
  refine (sheetCheck_any a b _).mono ?_
  rintro e w2 ⟨rfl, hb⟩
  rw [HS.out, ec_t]
  have H2 := H.call hb
  clear a0 a1 hb
  obtain ⟨⟨a0, a1⟩, _⟩ := blk2 (H2.blk 0 _ _ _ rfl)
  go_wp2_with fail
  go_ret
  exact ⟨rfl, H2.below⟩

set_option maxRecDepth 100000 in
set_option maxHeartbeats 2000000 in
theorem named_ok (a b c e : Int) (w : World) (hs : okS a b = true) (he : 0 ≤ e) (hn : nameI a b c e = ((c : Int), (e : Int), (0 : Int))) (hQ : Qf w) :
    Calls Tryz.prog 213 #[.agg #[.int .i64 a, .int .i64 b], .agg #[.int .i64 c, .int .u8 e]] w (RetBelow (.tuple #[.agg #[.int .i64 (c / 4 % a), .int .i64 (c / 4 / a), .int .u8 (c % 4)], .int .i64 0]) w) := by
  have HH := Lib.hid (name_has hn)
  have HN := Lib.hid fun w h => name_any a b c e w hs he h
  rw [hn] at HN
  unfold unitV at HN
  dsimp only at HN
  have HCELL := Lib.hid fun w => cell_any a b c w hs HH.out
  obtain ⟨x, hx⟩ : ∃ x, c / 4 % a = x := ⟨_, rfl⟩
  obtain ⟨y, hy⟩ : ∃ y, c / 4 / a = y := ⟨_, rfl⟩
  obtain ⟨q, hq⟩ : ∃ q, c % 4 = q := ⟨_, rfl⟩
  rw [hx, hy, hq] at HCELL
  rw [hx, hy, hq]
  have HS := Lib.hid hs
  have HQ := Lib.hid hQ
  have H := (((Bx.start w).new #[.int .i64 a, .int .i64 b] 37 rfl).new #[.int .i64 c, .int .u8 e] 109 (N := w.heap.size + 1) (by simp)).new #[.int .i64 0, .int .i64 0, .int .u8 0] 90 (N := w.heap.size + 2) (by simp)
  clear hx hy hq hs hn hQ
  go_enter Tryz.func213, Tryz.ntmps213
  go_upto_region 1 with fail
  obtain ⟨W, hW⟩ : ∃ W, W = ((w.alloc (.cells #[.int .i64 a, .int .i64 b] 37)).alloc (.cells #[.int .i64 c, .int .u8 e] 109)).alloc (.cells #[.int .i64 0, .int .i64 0, .int .u8 0] 90) := ⟨_, rfl⟩
  rw [← hW] at H ⊢
  obtain ⟨N, hN⟩ : ∃ N, N = w.heap.size := ⟨_, rfl⟩
  rw [← hN] at H ⊢
  obtain ⟨P, hP⟩ : ∃ P, P = N + 2 := ⟨_, rfl⟩
  rw [← hP] at H
  rw [show N + 1 + 1 = P from hP.symm]
  clear hW hN hP
  obtain ⟨⟨a0, a1⟩, _⟩ := blk2 (H.blk 0 _ _ _ rfl)
  go_wp2_with fail
  refine (sheetCheck_any a b _).mono ?_
  rintro ee w2 ⟨rfl, hb⟩
  rw [HS.out, ec_t]
  have H2 := H.call hb
  clear a0 a1 hb H
  obtain ⟨⟨a0, a1⟩, _⟩ := blk2 (H2.blk 0 _ _ _ rfl)
  obtain ⟨⟨b0, b1⟩, _⟩ := blk2 (H2.blk 1 _ _ _ rfl)
  go_wp2_with fail
  refine (HN.out _ (HQ.out.below H2.below).qt).mono ?_
  rintro ee w3 ⟨rfl, hb⟩
  have H3 := H2.call hb
  clear a0 a1 b0 b1 hb H2
  obtain ⟨⟨a0, a1⟩, _⟩ := blk2 (H3.blk 0 _ _ _ rfl)
  obtain ⟨⟨b0, b1⟩, _⟩ := blk2 (H3.blk 1 _ _ _ rfl)
  have l0 := H3.lt 0 rfl
  have l1 := H3.lt 1 rfl
  have l2 := H3.lt 2 rfl
  go_wp2_with fail
  refine (HCELL.out _).mono ?_
  rintro ee w4 ⟨rfl, hb⟩
  have H4 := (H3.other _).call hb
  clear a0 a1 b0 b1 hb H3
  obtain ⟨⟨d0, d1, d2⟩, f0, f1, f2⟩ := blk3 (H4.blk 2 _ _ _ rfl)
  go_wp2_with fail
  have H5 := ((H4.set 2 0 rfl (.int .i64 x)).set 2 1 rfl (.int .i64 y)).set 2 2 rfl (.int .u8 q)
  exact bodyPost_ret (res_cell_tmp rfl rfl (H5.range 2 rfl) Tryz.underlying90 rfl (by kernel_rfl)) rfl ⟨rfl, H5.below⟩

theorem cellN_ok {a b : Int} {c : Nat} (hs : okS a b = true) (hh : hasI a b c = true) : (cellN a c).ok = true := by
  obtain ⟨m1, m2, m3, m4, m5, m6⟩ := mul_bd hs
  obtain ⟨i1, i2⟩ := hasI_iff.1 hh
  have e0 : 4 * a * b = 4 * (a * b) := Int.mul_assoc _ _ _
  have d3 := Int.emod_nonneg ((c : Int) / 4) (show a ≠ 0 by omega)
  have d4 := Int.emod_lt_of_pos ((c : Int) / 4) (show 0 < a by omega)
  have d5 : 0 ≤ (c : Int) / 4 / a := Int.ediv_nonneg (by omega) (by omega)
  have d6 : (c : Int) / 4 / a ≤ (c : Int) / 4 := Int.ediv_le_self _ (by omega)
  unfold Cl.ok cellN
  rw [okC_iff]
  dsimp only
  refine ⟨by omega, by omega, by omega, by omega, by omega⟩

set_option maxRecDepth 100000 in
set_option maxHeartbeats 2000000 in
theorem sheetLine_ok (a b : Int) (c e : Nat) (w : World) (hs : okS a b = true) (he : e ≤ 2) (hn : nameI a b c e = ((c : Int), (e : Int), (0 : Int))) (hQ : Qf w) :
    Calls Tryz.prog 155 #[.agg #[.int .i64 a, .int .i64 b], .agg #[.int .i64 c, .int .u8 e]] w (RetBelow (lnR (lineE (cellN a c) e)) w) := by
  have HN := Lib.hid fun w h => named_ok a b c e w hs (by omega) hn h
  have hok := cellN_ok hs (name_has hn)
  have HL := Lib.hid fun w h => cellLine_ok (cellN a c) e w hok he h
  obtain ⟨⟨⟨rk, rc⟩, re⟩, hR⟩ : ∃ R, lineE (cellN a c) e = R := ⟨_, rfl⟩
  rw [hR] at HL ⊢
  unfold lnR at HL ⊢
  dsimp only at HL ⊢
  have hq4 : (c : Int) % 4 = ((c % 4 : Nat) : Int) := by omega
  rw [hq4] at HN
  unfold cellN at HL
  dsimp only at HL
  obtain ⟨x, hx⟩ : ∃ x, (c : Int) / 4 % a = x := ⟨_, rfl⟩
  obtain ⟨y, hy⟩ : ∃ y, (c : Int) / 4 / a = y := ⟨_, rfl⟩
  obtain ⟨q, hq⟩ : ∃ q, c % 4 = q := ⟨_, rfl⟩
  rw [hx, hy, hq] at HN HL
  have HQ := Lib.hid hQ
  have H := (((Bx.start w).new #[.int .i64 a, .int .i64 b] 37 rfl).new #[.int .i64 c, .int .u8 e] 109 (N := w.heap.size + 1) (by simp)).new #[.int .u8 0, .int .i64 0] 59 (N := w.heap.size + 2) (by simp)
  clear hx hy hq hs hn hQ hR hok hq4
  go_enter Tryz.func155, Tryz.ntmps155
  go_upto_region 1 with fail
  obtain ⟨W, hW⟩ : ∃ W, W = ((w.alloc (.cells #[.int .i64 a, .int .i64 b] 37)).alloc (.cells #[.int .i64 c, .int .u8 e] 109)).alloc (.cells #[.int .u8 0, .int .i64 0] 59) := ⟨_, rfl⟩
  rw [← hW] at H ⊢
  obtain ⟨N, hN⟩ : ∃ N, N = w.heap.size := ⟨_, rfl⟩
  rw [← hN] at H ⊢
  obtain ⟨P, hP⟩ : ∃ P, P = N + 2 := ⟨_, rfl⟩
  rw [← hP] at H
  rw [show N + 1 + 1 = P from hP.symm]
  clear hW hN hP
  obtain ⟨⟨a0, a1⟩, _⟩ := blk2 (H.blk 0 _ _ _ rfl)
  obtain ⟨⟨b0, b1⟩, _⟩ := blk2 (H.blk 1 _ _ _ rfl)
  go_wp2_with fail
  refine (HN.out _ (HQ.out.below H.below)).mono ?_
  rintro ee w2 ⟨rfl, hb⟩
  have H2 := H.call hb
  clear a0 a1 b0 b1 hb H
  obtain ⟨⟨b0, b1⟩, _⟩ := blk2 (H2.blk 1 _ _ _ rfl)
  have l1 := H2.lt 1 rfl
  have l2 := H2.lt 2 rfl
  go_wp2_with fail
  refine (HL.out _ (HQ.out.below (H2.other _).below)).mono ?_
  rintro ee w3 ⟨rfl, hb⟩
  have H3 := (H2.other _).call hb
  clear b0 b1 hb H2
  obtain ⟨⟨d0, d1⟩, f0, f1⟩ := blk2 (H3.blk 2 _ _ _ rfl)
  go_wp2_with fail
  have H4 := (H3.set 2 0 rfl (.int .u8 rk)).set 2 1 rfl (.int .i64 rc)
  exact bodyPost_ret (res_cell_tmp rfl rfl (H4.range 2 rfl) Tryz.underlying59 rfl (by kernel_rfl)) rfl ⟨rfl, H4.below⟩
end Go.Proofs.YtjdmkgnlakonbaaGreatDoor
