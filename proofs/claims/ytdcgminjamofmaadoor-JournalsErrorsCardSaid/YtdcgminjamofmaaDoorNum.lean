/- Contract of journals.number. -/
import Derived.Test.YtdcgminjamofmaaDoorErrs
namespace Go.Proofs.YtdcgminjamofmaaDoor
open Go.RowKit

def errNo : Nat → Int
  | 0 => 1
  | 1 => 8
  | 2 => 7
  | 3 => 6
  | 4 => 3
  | _ => 0
theorem nidx0 (a0 a1 a2 a3 a4 a5 a6 a7 a8 a9 : Value) (w : World) : (Instr.index 93 (.agg #[a0, a1, a2, a3, a4, a5, a6, a7, a8, a9]) (.int .i64 0)).run Tryd.prog w = .ok (.agg #[a0, a1]) w := by kernel_rfl
theorem nidx1 (a0 a1 a2 a3 a4 a5 a6 a7 a8 a9 : Value) (w : World) : (Instr.index 93 (.agg #[a0, a1, a2, a3, a4, a5, a6, a7, a8, a9]) (.int .i64 1)).run Tryd.prog w = .ok (.agg #[a2, a3]) w := by kernel_rfl
theorem nidx2 (a0 a1 a2 a3 a4 a5 a6 a7 a8 a9 : Value) (w : World) : (Instr.index 93 (.agg #[a0, a1, a2, a3, a4, a5, a6, a7, a8, a9]) (.int .i64 2)).run Tryd.prog w = .ok (.agg #[a4, a5]) w := by kernel_rfl
theorem nidx3 (a0 a1 a2 a3 a4 a5 a6 a7 a8 a9 : Value) (w : World) : (Instr.index 93 (.agg #[a0, a1, a2, a3, a4, a5, a6, a7, a8, a9]) (.int .i64 3)).run Tryd.prog w = .ok (.agg #[a6, a7]) w := by kernel_rfl
theorem nidx4 (a0 a1 a2 a3 a4 a5 a6 a7 a8 a9 : Value) (w : World) : (Instr.index 93 (.agg #[a0, a1, a2, a3, a4, a5, a6, a7, a8, a9]) (.int .i64 4)).run Tryd.prog w = .ok (.agg #[a8, a9]) w := by kernel_rfl

set_option maxHeartbeats 1000000 in
theorem number_0 (s : Nat → Addr) (w : World) (hS : Sent w s) :
    Calls Tryd.prog 26 #[.iface 125 (.pointer (some (s 0)))] w (RetBelow (.int .i64 (errNo 0)) w) := by
  have v0 := hS.v0
  have v1 := hS.v1
  have v2 := hS.v2
  have v3 := hS.v3
  have v4 := hS.v4
  have i0 := nidx0
  go_enter Tryd.func26, Tryd.ntmps26
  go_wp2_with fail
  clear v0 v1 v2 v3 v4
  refine wp_loop_rounds 1 ?_
  rw [rounds_succ]
  go_wp2_with fail
  refine (is_same _ _).mono ?_
  rintro e w' ⟨rfl, rfl⟩
  go_wp2_with fail
  go_ret
  exact ⟨rfl, by repeat' (first | exact Below.refl _ _ | refine Below.alloc ?_ (by simp <;> omega) _)⟩

set_option maxHeartbeats 1000000 in
theorem number_1 (s : Nat → Addr) (w : World) (hS : Sent w s) :
    Calls Tryd.prog 26 #[.iface 125 (.pointer (some (s 1)))] w (RetBelow (.int .i64 (errNo 1)) w) := by
  have v0 := hS.v0
  have v1 := hS.v1
  have v2 := hS.v2
  have v3 := hS.v3
  have v4 := hS.v4
  have i0 := nidx0
  have i1 := nidx1
  go_enter Tryd.func26, Tryd.ntmps26
  go_wp2_with fail
  clear v0 v1 v2 v3 v4
  refine wp_loop_rounds 2 ?_
  rw [rounds_succ]
  go_wp2_with fail
  refine (is_other s 1 0 (by omega) (by omega) (by omega) _ (hS.alloc _)).mono ?_
  rintro e w' ⟨rfl, rfl⟩
  go_wp2_with fail
  rw [rounds_succ]
  go_wp2_with fail
  refine (is_same _ _).mono ?_
  rintro e w' ⟨rfl, rfl⟩
  go_wp2_with fail
  go_ret
  exact ⟨rfl, by repeat' (first | exact Below.refl _ _ | refine Below.alloc ?_ (by simp <;> omega) _)⟩

set_option maxHeartbeats 1000000 in
theorem number_2 (s : Nat → Addr) (w : World) (hS : Sent w s) :
    Calls Tryd.prog 26 #[.iface 125 (.pointer (some (s 2)))] w (RetBelow (.int .i64 (errNo 2)) w) := by
  have v0 := hS.v0
  have v1 := hS.v1
  have v2 := hS.v2
  have v3 := hS.v3
  have v4 := hS.v4
  have i0 := nidx0
  have i1 := nidx1
  have i2 := nidx2
  go_enter Tryd.func26, Tryd.ntmps26
  go_wp2_with fail
  clear v0 v1 v2 v3 v4
  refine wp_loop_rounds 3 ?_
  rw [rounds_succ]
  go_wp2_with fail
  refine (is_other s 2 0 (by omega) (by omega) (by omega) _ (hS.alloc _)).mono ?_
  rintro e w' ⟨rfl, rfl⟩
  go_wp2_with fail
  rw [rounds_succ]
  go_wp2_with fail
  refine (is_other s 2 1 (by omega) (by omega) (by omega) _ ((hS.alloc _).alloc _)).mono ?_
  rintro e w' ⟨rfl, rfl⟩
  go_wp2_with fail
  rw [rounds_succ]
  go_wp2_with fail
  refine (is_same _ _).mono ?_
  rintro e w' ⟨rfl, rfl⟩
  go_wp2_with fail
  go_ret
  exact ⟨rfl, by repeat' (first | exact Below.refl _ _ | refine Below.alloc ?_ (by simp <;> omega) _)⟩

set_option maxHeartbeats 1000000 in
theorem number_3 (s : Nat → Addr) (w : World) (hS : Sent w s) :
    Calls Tryd.prog 26 #[.iface 125 (.pointer (some (s 3)))] w (RetBelow (.int .i64 (errNo 3)) w) := by
  have v0 := hS.v0
  have v1 := hS.v1
  have v2 := hS.v2
  have v3 := hS.v3
  have v4 := hS.v4
  have i0 := nidx0
  have i1 := nidx1
  have i2 := nidx2
  have i3 := nidx3
  go_enter Tryd.func26, Tryd.ntmps26
  go_wp2_with fail
  clear v0 v1 v2 v3 v4
  refine wp_loop_rounds 4 ?_
  rw [rounds_succ]
  go_wp2_with fail
  refine (is_other s 3 0 (by omega) (by omega) (by omega) _ (hS.alloc _)).mono ?_
  rintro e w' ⟨rfl, rfl⟩
  go_wp2_with fail
  rw [rounds_succ]
  go_wp2_with fail
  refine (is_other s 3 1 (by omega) (by omega) (by omega) _ ((hS.alloc _).alloc _)).mono ?_
  rintro e w' ⟨rfl, rfl⟩
  go_wp2_with fail
  rw [rounds_succ]
  go_wp2_with fail
  refine (is_other s 3 2 (by omega) (by omega) (by omega) _ (((hS.alloc _).alloc _).alloc _)).mono ?_
  rintro e w' ⟨rfl, rfl⟩
  go_wp2_with fail
  rw [rounds_succ]
  go_wp2_with fail
  refine (is_same _ _).mono ?_
  rintro e w' ⟨rfl, rfl⟩
  go_wp2_with fail
  go_ret
  exact ⟨rfl, by repeat' (first | exact Below.refl _ _ | refine Below.alloc ?_ (by simp <;> omega) _)⟩

set_option maxHeartbeats 1000000 in
theorem number_4 (s : Nat → Addr) (w : World) (hS : Sent w s) :
    Calls Tryd.prog 26 #[.iface 125 (.pointer (some (s 4)))] w (RetBelow (.int .i64 (errNo 4)) w) := by
  have v0 := hS.v0
  have v1 := hS.v1
  have v2 := hS.v2
  have v3 := hS.v3
  have v4 := hS.v4
  have i0 := nidx0
  have i1 := nidx1
  have i2 := nidx2
  have i3 := nidx3
  have i4 := nidx4
  go_enter Tryd.func26, Tryd.ntmps26
  go_wp2_with fail
  clear v0 v1 v2 v3 v4
  refine wp_loop_rounds 5 ?_
  rw [rounds_succ]
  go_wp2_with fail
  refine (is_other s 4 0 (by omega) (by omega) (by omega) _ (hS.alloc _)).mono ?_
  rintro e w' ⟨rfl, rfl⟩
  go_wp2_with fail
  rw [rounds_succ]
  go_wp2_with fail
  refine (is_other s 4 1 (by omega) (by omega) (by omega) _ ((hS.alloc _).alloc _)).mono ?_
  rintro e w' ⟨rfl, rfl⟩
  go_wp2_with fail
  rw [rounds_succ]
  go_wp2_with fail
  refine (is_other s 4 2 (by omega) (by omega) (by omega) _ (((hS.alloc _).alloc _).alloc _)).mono ?_
  rintro e w' ⟨rfl, rfl⟩
  go_wp2_with fail
  rw [rounds_succ]
  go_wp2_with fail
  refine (is_other s 4 3 (by omega) (by omega) (by omega) _ ((((hS.alloc _).alloc _).alloc _).alloc _)).mono ?_
  rintro e w' ⟨rfl, rfl⟩
  go_wp2_with fail
  rw [rounds_succ]
  go_wp2_with fail
  refine (is_same _ _).mono ?_
  rintro e w' ⟨rfl, rfl⟩
  go_wp2_with fail
  go_ret
  exact ⟨rfl, by repeat' (first | exact Below.refl _ _ | refine Below.alloc ?_ (by simp <;> omega) _)⟩

theorem number_any (s : Nat → Addr) (p : Nat) (hp : p < 5) (w : World) (hS : Sent w s) :
    Calls Tryd.prog 26 #[.iface 125 (.pointer (some (s p)))] w (RetBelow (.int .i64 (errNo p)) w) := by
  match p, hp with
  | 0, _ => exact number_0 s w hS
  | 1, _ => exact number_1 s w hS
  | 2, _ => exact number_2 s w hS
  | 3, _ => exact number_3 s w hS
  | 4, _ => exact number_4 s w hS
end Go.Proofs.YtdcgminjamofmaaDoor
