/- Contract of crimplaw42.block. -/
import Derived.Test.YtdcgminjamofmaaDoorNone
import Derived.Test.YtdcgminjamofmaaDoorRead
namespace Go.Proofs.YtdcgminjamofmaaDoor
open Go.RowKit

theorem own_ne {w : World} {base e s n g : Nat} {v : Value} {xs : List Value} {cs : Array Value} {t : TypeId} {fr : Nat × Nat} (h : w.ownsRow base e s v n xs) (hg : w.heap[g]? = some (.cells cs t fr)) (ht : t ≠ e) : some g ≠ v.ownBlock := by
  rcases h.2 with ⟨rfl, _⟩ | ⟨g', cap, cur, rfl, _, hgg, _⟩
  · simp [Value.ownBlock]
  · intro e1
    have : g = g' := by simpa [Value.ownBlock] using e1
    subst this
    rw [hg] at hgg
    injection hgg with h1
    injection h1 with _ h2 _
    exact ht h2
theorem row_grown {w w' : World} {g : Nat} {x : Obj} {row : Option Nat} (h : w.heap[g]? = some x) (hg : w.grownBy w' row) (hne : some g ≠ row) : w'.heap[g]? = some x := by
  rw [hg.block g (Array.getElem?_eq_some_iff.1 h).1 hne]
  exact h
theorem row_alloc {w : World} {g : Nat} {x : Obj} (h : w.heap[g]? = some x) (o : Obj) : (w.alloc o).heap[g]? = some x := by
  rw [Below.heap_alloc _ _ _ (Array.getElem?_eq_some_iff.1 h).1]
  exact h

def LRel (w : World) (t k j v : Int) (sb : Nat) (ss : List Value) (N : Nat) (s3 : Value) (wr : World) : Prop :=
  wr.ownsRow w.heap.size 5 1 s3 N (bts ((head10 t k j v).take N)) ∧ wr.heap[w.heap.size]? = some (.cells #[.int .i64 t, .int .u8 k, .int .i64 j, .int .i64 v] 37 (0, 0)) ∧ wr.heap[sb]? = some (.cells ss.toArray 3 (0, 0)) ∧ Below w.heap.size w wr

theorem LRel.step {w wr w1 : World} {t k j v : Int} {sb N : Nat} {ss : List Value} {s3 s3' : Value} {o : Obj} {x : Int} (h : LRel w t k j v sb ss N s3 wr) (ho : w1.ownsRow w.heap.size 5 1 s3' (N + 1) (bts ((head10 t k j v).take N) ++ [.int .u8 x])) (hg : (wr.alloc o).grownBy w1 s3.ownBlock) (hx : (head10 t k j v)[N]? = some x) : LRel w t k j v sb ss (N + 1) s3' w1 := by
  obtain ⟨h1, h2, h3, h4⟩ := h
  have ha := h1.alloc o
  refine ⟨?_, row_grown (row_alloc h2 o) hg (own_ne ha (row_alloc h2 o) (by decide)), row_grown (row_alloc h3 o) hg (own_ne ha (row_alloc h3 o) (by decide)), (h4.alloc h4.size o).grown hg (by have := h4.size; simp; omega) (fun q hq => (h1.lt q hq).1)⟩
  have hl := (List.getElem?_eq_some_iff.1 hx)
  rw [List.take_succ_eq_append_getElem hl.1, hl.2]
  simpa [bts] using ho

set_option maxHeartbeats 2000000 in
set_option maxRecDepth 100000 in
theorem lawblock_any (t k j v : Int) (w : World) (ht : 0 ≤ t ∧ t ≤ 1000000000) (hk : 0 ≤ k ∧ k ≤ 255) (hj : 0 ≤ j ∧ j ≤ 65535) (hv : 0 ≤ v ∧ v ≤ 16777215) :
    Calls Tryd.prog 19 #[.agg #[.int .i64 t, .int .u8 k, .int .i64 j, .int .i64 v]] w (OwnRet 5 1 12 (bts (blk t k j v)) w) := by
  obtain ⟨i0, hi0, hz0, hz1, hz2⟩ := info_parts byte_info
  have ej1 : IntKind.u8.wrap (j / 256) = j / 256 := IntWalk.u8_in _ (by omega)
  have ej2 : IntKind.u8.wrap (j % 256) = j % 256 := IntWalk.u8_in _ (by omega)
  go_enter Tryd.func19, Tryd.ntmps19
  have hst : LRel w t k j v (w.heap.size + 1 + 1) [.int .i64 16777216, .int .i64 65536, .int .i64 256, .int .i64 1] 3 (.slice (some ⟨w.heap.size + 1, 0, none⟩) 3 3) (((w.alloc (.cells #[.int .i64 t, .int .u8 k, .int .i64 j, .int .i64 v] 37)).alloc (.cells #[.int .u8 k, .int .u8 (j / 256), .int .u8 (j % 256)] 5)).alloc (.cells #[.int .i64 16777216, .int .i64 65536, .int .i64 256, .int .i64 1] 3)) := by
    obtain ⟨wa, hwa⟩ : ∃ wa, wa = w.alloc (.cells #[.int .i64 t, .int .u8 k, .int .i64 j, .int .i64 v] 37) := ⟨_, rfl⟩
    have hsa : wa.heap.size = w.heap.size + 1 := by rw [hwa]; exact World.size_alloc _ _
    have h0 : wa.heap[w.heap.size]? = some (.cells #[.int .i64 t, .int .u8 k, .int .i64 j, .int .i64 v] 37 (0, 0)) := by rw [hwa]; exact heap_alloc_new w _
    have hb : Below w.heap.size w wa := by rw [hwa]; exact (Below.refl _ _).alloc (Nat.le_refl _) _
    rw [← hwa]
    have ho := own_new (w := wa) w.heap.size 1 3 (e := 5) (bts ((head10 t k j v).take 3)) (by omega) (by simp [maxLen]) rfl hsa
    refine ⟨ho.alloc _, row_alloc (row_alloc h0 _) _, ?_, (hb.alloc (by omega) _).alloc (by simp; omega) _⟩
    have := heap_alloc_new (wa.alloc (.cells #[.int .u8 k, .int .u8 (j / 256), .int .u8 (j % 256)] 5)) (.cells #[.int .i64 16777216, .int .i64 65536, .int .i64 256, .int .i64 1] 3)
    rw [World.size_alloc, hsa] at this
    exact this
  go_wp2_with fail
  go_loopw [3, 5, 22] (fun s3 _ s22 wr => ∃ i : Nat, i ≤ 4 ∧ s22 = .int .i64 i ∧ LRel w t k j v (w.heap.size + 1 + 1) [.int .i64 16777216, .int .i64 65536, .int .i64 256, .int .i64 1] (3 + i) s3 wr) (fun _ _ s22 _ => 4 - (intOf s22).toNat)
  case atStart => exact ⟨0, by omega, rfl, hst⟩
  case round =>
    obtain ⟨i, hi, rfl, hrel⟩ := hrel
    have HREL := Lib.hid hrel
    have HO := Lib.hid hrel.1
    have HROW := Lib.hid hrel.2.2.1
    have hbel := hrel.2.2.2
    have hsz := hbel.size
    obtain ⟨d0, d1, d2, d3⟩ : wr.cell? ⟨w.heap.size, 0, none⟩ = some (.int .i64 t) ∧ wr.cell? ⟨w.heap.size, 1, none⟩ = some (.int .u8 k) ∧ wr.cell? ⟨w.heap.size, 2, none⟩ = some (.int .i64 j) ∧ wr.cell? ⟨w.heap.size, 3, none⟩ = some (.int .i64 v) := ⟨by rw [cell_of_row _ _ 0 _ _ _ hrel.2.1]; rfl, by rw [cell_of_row _ _ 1 _ _ _ hrel.2.1]; rfl, by rw [cell_of_row _ _ 2 _ _ _ hrel.2.1]; rfl, by rw [cell_of_row _ _ 3 _ _ _ hrel.2.1]; rfl⟩
    clear hrel hst
    have hcs : i = 0 ∨ i = 1 ∨ i = 2 ∨ i = 3 ∨ i = 4 := by omega
    rcases hcs with hcs | hcs | hcs | hcs | hcs
    · obtain rfl : i = 0 := by omega
      have hc : wr.cell? ⟨w.heap.size + 1 + 1, 0, none⟩ = some (.int .i64 16777216) := by rw [cell_of_row _ _ 0 _ _ _ HROW.out]; rfl
      have hw : IntKind.u8.wrap (t / 16777216 % 256) = t / 16777216 % 256 := IntWalk.u8_in _ (by omega)
      go_wp2_with (at_builtin; refine wpList_append_own _ rfl _ _ 39 rfl w.heap.size 5 i0 (.int .u8 0) 1 1 Tryd.underlying39 hi0 hz0 hz1 hz2 rfl (by decide) _ _ _ rfl (by exact HO.out.alloc _) ⟨wr.heap.size, 0, none⟩ 1 1 [.int .u8 (t / 16777216 % 256)] rfl rfl (cells_new _ _ _) (by simp [Value.oneCell']) (by simp [maxLen]) (by omega) (by simp; omega) ?_)
      intro v' w1 hown1 hg1 _
      have HO1 := Lib.hid hown1
      clear hown1
      go_wp2_with fail
      go_roundw
      case rel => exact ⟨1, by omega, rfl, HREL.out.step HO1.out hg1 (by first | rfl | (show some _ = some _; congr 1; omega))⟩
      case measure => simp [intOf]
    · obtain rfl : i = 1 := by omega
      have hc : wr.cell? ⟨w.heap.size + 1 + 1, 1, none⟩ = some (.int .i64 65536) := by rw [cell_of_row _ _ 1 _ _ _ HROW.out]; rfl
      have hw : IntKind.u8.wrap (t / 65536 % 256) = t / 65536 % 256 := IntWalk.u8_in _ (by omega)
      go_wp2_with (at_builtin; refine wpList_append_own _ rfl _ _ 39 rfl w.heap.size 5 i0 (.int .u8 0) 1 1 Tryd.underlying39 hi0 hz0 hz1 hz2 rfl (by decide) _ _ _ rfl (by exact HO.out.alloc _) ⟨wr.heap.size, 0, none⟩ 1 1 [.int .u8 (t / 65536 % 256)] rfl rfl (cells_new _ _ _) (by simp [Value.oneCell']) (by simp [maxLen]) (by omega) (by simp; omega) ?_)
      intro v' w1 hown1 hg1 _
      have HO1 := Lib.hid hown1
      clear hown1
      go_wp2_with fail
      go_roundw
      case rel => exact ⟨2, by omega, rfl, HREL.out.step HO1.out hg1 (by first | rfl | (show some _ = some _; congr 1; omega))⟩
      case measure => simp [intOf]
    · obtain rfl : i = 2 := by omega
      have hc : wr.cell? ⟨w.heap.size + 1 + 1, 2, none⟩ = some (.int .i64 256) := by rw [cell_of_row _ _ 2 _ _ _ HROW.out]; rfl
      have hw : IntKind.u8.wrap (t / 256 % 256) = t / 256 % 256 := IntWalk.u8_in _ (by omega)
      go_wp2_with (at_builtin; refine wpList_append_own _ rfl _ _ 39 rfl w.heap.size 5 i0 (.int .u8 0) 1 1 Tryd.underlying39 hi0 hz0 hz1 hz2 rfl (by decide) _ _ _ rfl (by exact HO.out.alloc _) ⟨wr.heap.size, 0, none⟩ 1 1 [.int .u8 (t / 256 % 256)] rfl rfl (cells_new _ _ _) (by simp [Value.oneCell']) (by simp [maxLen]) (by omega) (by simp; omega) ?_)
      intro v' w1 hown1 hg1 _
      have HO1 := Lib.hid hown1
      clear hown1
      go_wp2_with fail
      go_roundw
      case rel => exact ⟨3, by omega, rfl, HREL.out.step HO1.out hg1 (by first | rfl | (show some _ = some _; congr 1; omega))⟩
      case measure => simp [intOf]
    · obtain rfl : i = 3 := by omega
      have hc : wr.cell? ⟨w.heap.size + 1 + 1, 3, none⟩ = some (.int .i64 1) := by rw [cell_of_row _ _ 3 _ _ _ HROW.out]; rfl
      have hw : IntKind.u8.wrap (t % 256) = t % 256 := IntWalk.u8_in _ (by omega)
      go_wp2_with (at_builtin; refine wpList_append_own _ rfl _ _ 39 rfl w.heap.size 5 i0 (.int .u8 0) 1 1 Tryd.underlying39 hi0 hz0 hz1 hz2 rfl (by decide) _ _ _ rfl (by exact HO.out.alloc _) ⟨wr.heap.size, 0, none⟩ 1 1 [.int .u8 (t % 256)] rfl rfl (cells_new _ _ _) (by simp [Value.oneCell']) (by simp [maxLen]) (by omega) (by simp; omega) ?_)
      intro v' w1 hown1 hg1 _
      have HO1 := Lib.hid hown1
      clear hown1
      go_wp2_with fail
      go_roundw
      case rel => exact ⟨4, by omega, rfl, HREL.out.step HO1.out hg1 (by first | rfl | (show some _ = some _; congr 1; omega))⟩
      case measure => simp [intOf]
    · subst hcs
      rw [show ((4 : Nat) : Int) = 4 from rfl]
      have hst2 : LRel w t k j v wr.heap.size [.int .i64 65536, .int .i64 256, .int .i64 1] 7 u3 (wr.alloc (.cells #[.int .i64 65536, .int .i64 256, .int .i64 1] 3)) :=
        ⟨HO.out.alloc _, row_alloc HREL.out.2.1 _, heap_alloc_new wr _, hbel.alloc hsz _⟩
      clear HO HREL HROW
      go_wp2_with fail
      obtain ⟨SB, hSB⟩ : ∃ SB, SB = wr.heap.size := ⟨_, rfl⟩
      obtain ⟨wz, hwz⟩ : ∃ wz, wz = wr.alloc (.cells #[.int .i64 65536, .int .i64 256, .int .i64 1] 3) := ⟨_, rfl⟩
      rw [← hSB] at hst2 ⊢
      rw [← hwz] at hst2 ⊢
      clear hSB hwz d0 d1 d2 d3 hbel hsz
      go_loopw [3, 7, 38] (fun s3 _ s38 wr => ∃ m : Nat, m ≤ 3 ∧ s38 = .int .i64 m ∧ LRel w t k j v SB [.int .i64 65536, .int .i64 256, .int .i64 1] (7 + m) s3 wr) (fun _ _ s38 _ => 3 - (intOf s38).toNat)
      case atStart => exact ⟨0, by omega, rfl, hst2⟩
      case round =>
        obtain ⟨m, hm, rfl, hrel⟩ := hrel
        have HREL2 := Lib.hid hrel
        have HO2 := Lib.hid hrel.1
        have HROW2 := Lib.hid hrel.2.2.1
        have hbel := hrel.2.2.2
        have hsz := hbel.size
        obtain ⟨d0, d1, d2, d3⟩ : wr.cell? ⟨w.heap.size, 0, none⟩ = some (.int .i64 t) ∧ wr.cell? ⟨w.heap.size, 1, none⟩ = some (.int .u8 k) ∧ wr.cell? ⟨w.heap.size, 2, none⟩ = some (.int .i64 j) ∧ wr.cell? ⟨w.heap.size, 3, none⟩ = some (.int .i64 v) := ⟨by rw [cell_of_row _ _ 0 _ _ _ hrel.2.1]; rfl, by rw [cell_of_row _ _ 1 _ _ _ hrel.2.1]; rfl, by rw [cell_of_row _ _ 2 _ _ _ hrel.2.1]; rfl, by rw [cell_of_row _ _ 3 _ _ _ hrel.2.1]; rfl⟩
        clear hrel hst2
        have hcs : m = 0 ∨ m = 1 ∨ m = 2 ∨ m = 3 := by omega
        rcases hcs with hcs | hcs | hcs | hcs
        · obtain rfl : m = 0 := by omega
          have hc : wr.cell? ⟨SB, 0, none⟩ = some (.int .i64 65536) := by rw [cell_of_row _ _ 0 _ _ _ HROW2.out]; rfl
          have hw : IntKind.u8.wrap (v / 65536 % 256) = v / 65536 % 256 := IntWalk.u8_in _ (by omega)
          go_wp2_with (at_builtin; refine wpList_append_own _ rfl _ _ 39 rfl w.heap.size 5 i0 (.int .u8 0) 1 1 Tryd.underlying39 hi0 hz0 hz1 hz2 rfl (by decide) _ _ _ rfl (by exact HO2.out.alloc _) ⟨wr.heap.size, 0, none⟩ 1 1 [.int .u8 (v / 65536 % 256)] rfl rfl (cells_new _ _ _) (by simp [Value.oneCell']) (by simp [maxLen]) (by omega) (by simp; omega) ?_)
          intro v' w1 hown1 hg1 _
          have HO1 := Lib.hid hown1
          clear hown1
          go_wp2_with fail
          go_roundw
          case rel =>
            exact ⟨1, by omega, rfl, HREL2.out.step HO1.out hg1 (by first | rfl | (show some _ = some _; congr 1; omega))⟩
          case measure => simp [intOf]
        · obtain rfl : m = 1 := by omega
          have hc : wr.cell? ⟨SB, 1, none⟩ = some (.int .i64 256) := by rw [cell_of_row _ _ 1 _ _ _ HROW2.out]; rfl
          have hw : IntKind.u8.wrap (v / 256 % 256) = v / 256 % 256 := IntWalk.u8_in _ (by omega)
          go_wp2_with (at_builtin; refine wpList_append_own _ rfl _ _ 39 rfl w.heap.size 5 i0 (.int .u8 0) 1 1 Tryd.underlying39 hi0 hz0 hz1 hz2 rfl (by decide) _ _ _ rfl (by exact HO2.out.alloc _) ⟨wr.heap.size, 0, none⟩ 1 1 [.int .u8 (v / 256 % 256)] rfl rfl (cells_new _ _ _) (by simp [Value.oneCell']) (by simp [maxLen]) (by omega) (by simp; omega) ?_)
          intro v' w1 hown1 hg1 _
          have HO1 := Lib.hid hown1
          clear hown1
          go_wp2_with fail
          go_roundw
          case rel => exact ⟨2, by omega, rfl, HREL2.out.step HO1.out hg1 (by first | rfl | (show some _ = some _; congr 1; omega))⟩
          case measure => simp [intOf]
        · obtain rfl : m = 2 := by omega
          have hc : wr.cell? ⟨SB, 2, none⟩ = some (.int .i64 1) := by rw [cell_of_row _ _ 2 _ _ _ HROW2.out]; rfl
          have hw : IntKind.u8.wrap (v % 256) = v % 256 := IntWalk.u8_in _ (by omega)
          go_wp2_with (at_builtin; refine wpList_append_own _ rfl _ _ 39 rfl w.heap.size 5 i0 (.int .u8 0) 1 1 Tryd.underlying39 hi0 hz0 hz1 hz2 rfl (by decide) _ _ _ rfl (by exact HO2.out.alloc _) ⟨wr.heap.size, 0, none⟩ 1 1 [.int .u8 (v % 256)] rfl rfl (cells_new _ _ _) (by simp [Value.oneCell']) (by simp [maxLen]) (by omega) (by simp; omega) ?_)
          intro v' w1 hown1 hg1 _
          have HO1 := Lib.hid hown1
          clear hown1
          go_wp2_with fail
          go_roundw
          case rel => exact ⟨3, by omega, rfl, HREL2.out.step HO1.out hg1 (by first | rfl | (show some _ = some _; congr 1; omega))⟩
          case measure => simp [intOf]
        · subst hcs
          have ho3 : wr.ownsRow w.heap.size 5 1 u3 10 (bts (head10 t k j v)) := HO2.out
          obtain ⟨A3, c3, rfl, hn3, hm3⟩ := own_form ho3
          have HO3 := Lib.hid ho3
          have hs := jsum_bd (head10 t k j v)
          obtain ⟨S, hS⟩ : ∃ S, jsum (head10 t k j v) = S := ⟨_, rfl⟩
          rw [hS] at hs
          have HSS := Lib.hid hS
          have e1 : IntKind.u8.wrap (S / 256) = S / 256 := IntWalk.u8_in _ (by omega)
          have e2 : IntKind.u8.wrap (S % 256) = S % 256 := IntWalk.u8_in _ (by omega)
          clear HO2 HREL2 HROW2 ho3 hS
          go_wp2_with fail
          refine (lawsum_any A3 (head10 t k j v) 10 c3 wr rfl (Rd.of_own HO3.out) (head10_bd ht hk hj hv) (by omega)).mono ?_
          rintro e w3 ⟨rfl, rfl⟩
          rw [HSS.out]
          go_wp2_with (at_builtin; refine wpList_append_own _ rfl _ _ 39 rfl w.heap.size 5 i0 (.int .u8 0) 1 1 Tryd.underlying39 hi0 hz0 hz1 hz2 rfl (by decide) _ _ _ rfl (by exact HO3.out.alloc _) ⟨wr.heap.size, 0, none⟩ 2 2 [.int .u8 (S / 256), .int .u8 (S % 256)] rfl rfl (cells_new _ _ _) (by simp [Value.oneCell']) (by simp [maxLen]) (by omega) (by simp; omega) ?_)
          intro v' w1 hown1 hg1 _
          have HO1 := Lib.hid hown1
          clear hown1
          go_wp2_with fail
          go_ret
          refine ⟨_, rfl, ?_, (hbel.alloc hsz _).grown hg1 (by simp; omega) (fun q hq => (HO3.out.lt q hq).1)⟩
          have := HO1.out
          unfold blk
          rw [HSS.out]
          simpa [bts] using this
end Go.Proofs.YtdcgminjamofmaaDoor
