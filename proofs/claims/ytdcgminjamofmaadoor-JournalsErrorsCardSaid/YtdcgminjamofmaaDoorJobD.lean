/- (*Job).do at Deliver. -/
import Derived.Test.YtdcgminjamofmaaDoorJob
namespace Go.Proofs.YtdcgminjamofmaaDoor
open Go.RowKit

set_option maxHeartbeats 1000000 in
theorem do_deliver_ok (b o : Nat) (J C P F U t j v : Int) (w : World) (hb : b < w.heap.size)
    (_c0 : w.cell? ⟨b, o, none⟩ = some (.int .i64 J)) (_c1 : w.cell? ⟨b, o + 1, none⟩ = some (.int .i64 C)) (_c2 : w.cell? ⟨b, o + 2, none⟩ = some (.int .i64 P)) (_c3 : w.cell? ⟨b, o + 3, none⟩ = some (.int .i64 F))
    (_c4 : w.cell? ⟨b, o + 4, none⟩ = some (.int .i64 U)) (_c5 : w.cell? ⟨b, o + 5, none⟩ = some (.bool false))
    (_h1 : 0 ≤ U) (_h2 : U ≤ F) (_h3 : F ≤ P) (_h4 : P ≤ 1000000000) (_h7 : C ≤ U) (_hfz : w.frozen? ⟨b, o + 5, none⟩ = false) :
    Calls Tryd.prog 44 #[.pointer (some ⟨b, o, none⟩), .agg #[.int .i64 t, .int .u8 6, .int .i64 j, .int .i64 v]] w (fun e w' => e = .returned .nilIface ∧ Below w.heap.size (w.setCell ⟨b, o + 5, none⟩ (.bool true)) w') := by
  have i0 := jidx0
  have i1 := jidx1
  have i2 := jidx2
  have i3 := jidx3
  have hb1 : b < w.heap.size + 1 := by omega
  have hb2 : b < w.heap.size + 1 + 1 := by omega
  have hb3 : b < w.heap.size + 1 + 1 + 1 := by omega
  have hb4 : b < w.heap.size + 1 + 1 + 1 + 1 := by omega
  have hb5 : b < w.heap.size + 1 + 1 + 1 + 1 + 1 := by omega
  go_enter Tryd.func44, Tryd.ntmps44
  go_wp2_with fail
  go_quiet (fail)
  go_wp2_with fail
  refine wp_loop_rounds 5 ?_
  rw [rounds_succ]
  go_wp2_with fail
  rw [rounds_succ]
  go_wp2_with fail
  rw [rounds_succ]
  go_wp2_with fail
  rw [rounds_succ]
  go_wp2_with fail
  rw [rounds_succ]
  go_wp2_with fail
  go_quiet (fail)
  go_wp2_with fail
  go_ret
  exact ⟨rfl, by repeat' (first | exact Below.refl _ _ | refine Below.alloc ?_ (by simp <;> omega) _ | refine below_drewN ?_ _ | refine below_set ?_ _ _)⟩

set_option maxHeartbeats 1000000 in
theorem do_deliver_del (b o : Nat) (J C P F U t j v : Int) (w : World) (hb : b < w.heap.size)
    (_c0 : w.cell? ⟨b, o, none⟩ = some (.int .i64 J)) (_c1 : w.cell? ⟨b, o + 1, none⟩ = some (.int .i64 C)) (_c2 : w.cell? ⟨b, o + 2, none⟩ = some (.int .i64 P)) (_c3 : w.cell? ⟨b, o + 3, none⟩ = some (.int .i64 F))
    (_c4 : w.cell? ⟨b, o + 4, none⟩ = some (.int .i64 U)) (_c5 : w.cell? ⟨b, o + 5, none⟩ = some (.bool true))
    (_h1 : 0 ≤ U) (_h2 : U ≤ F) (_h3 : F ≤ P) (_h4 : P ≤ 1000000000) 
    (x : Addr) (hg : w.cell? ⟨3, 0, none⟩ = some (.iface 125 (.pointer (some x)))) :
    Calls Tryd.prog 44 #[.pointer (some ⟨b, o, none⟩), .agg #[.int .i64 t, .int .u8 6, .int .i64 j, .int .i64 v]] w (RetBelow (.iface 125 (.pointer (some x))) w) := by
  have hgl := World.block_lt_of_cell? w ⟨3, 0, none⟩ hg
  dsimp only at hgl
  have hgl1 : 3 < w.heap.size + 1 := by omega
  have hgl2 : 3 < w.heap.size + 1 + 1 := by omega
  have hgl3 : 3 < w.heap.size + 1 + 1 + 1 := by omega
  have hgl4 : 3 < w.heap.size + 1 + 1 + 1 + 1 := by omega
  have hgl5 : 3 < w.heap.size + 1 + 1 + 1 + 1 + 1 := by omega
  have i0 := jidx0
  have i1 := jidx1
  have i2 := jidx2
  have i3 := jidx3
  have hb1 : b < w.heap.size + 1 := by omega
  have hb2 : b < w.heap.size + 1 + 1 := by omega
  have hb3 : b < w.heap.size + 1 + 1 + 1 := by omega
  have hb4 : b < w.heap.size + 1 + 1 + 1 + 1 := by omega
  have hb5 : b < w.heap.size + 1 + 1 + 1 + 1 + 1 := by omega
  go_enter Tryd.func44, Tryd.ntmps44
  go_wp2_with fail
  go_quiet (fail)
  go_wp2_with fail
  refine wp_loop_rounds 5 ?_
  rw [rounds_succ]
  go_wp2_with fail
  rw [rounds_succ]
  go_wp2_with fail
  rw [rounds_succ]
  go_wp2_with fail
  rw [rounds_succ]
  go_wp2_with fail
  rw [rounds_succ]
  go_wp2_with fail
  go_quiet (fail)
  go_wp2_with fail
  go_ret
  exact ⟨rfl, by repeat' (first | exact Below.refl _ _ | refine Below.alloc ?_ (by simp <;> omega) _ | refine below_drewN ?_ _ | refine below_set ?_ _ _)⟩

set_option maxHeartbeats 1000000 in
theorem do_deliver_few (b o : Nat) (J C P F U t j v : Int) (w : World) (hb : b < w.heap.size)
    (_c0 : w.cell? ⟨b, o, none⟩ = some (.int .i64 J)) (_c1 : w.cell? ⟨b, o + 1, none⟩ = some (.int .i64 C)) (_c2 : w.cell? ⟨b, o + 2, none⟩ = some (.int .i64 P)) (_c3 : w.cell? ⟨b, o + 3, none⟩ = some (.int .i64 F))
    (_c4 : w.cell? ⟨b, o + 4, none⟩ = some (.int .i64 U)) (_c5 : w.cell? ⟨b, o + 5, none⟩ = some (.bool false))
    (_h1 : 0 ≤ U) (_h2 : U ≤ F) (_h3 : F ≤ P) (_h4 : P ≤ 1000000000) (_h7 : U < C)
    (x : Addr) (hg : w.cell? ⟨3, 0, none⟩ = some (.iface 125 (.pointer (some x)))) :
    Calls Tryd.prog 44 #[.pointer (some ⟨b, o, none⟩), .agg #[.int .i64 t, .int .u8 6, .int .i64 j, .int .i64 v]] w (RetBelow (.iface 125 (.pointer (some x))) w) := by
  have hgl := World.block_lt_of_cell? w ⟨3, 0, none⟩ hg
  dsimp only at hgl
  have hgl1 : 3 < w.heap.size + 1 := by omega
  have hgl2 : 3 < w.heap.size + 1 + 1 := by omega
  have hgl3 : 3 < w.heap.size + 1 + 1 + 1 := by omega
  have hgl4 : 3 < w.heap.size + 1 + 1 + 1 + 1 := by omega
  have hgl5 : 3 < w.heap.size + 1 + 1 + 1 + 1 + 1 := by omega
  have i0 := jidx0
  have i1 := jidx1
  have i2 := jidx2
  have i3 := jidx3
  have hb1 : b < w.heap.size + 1 := by omega
  have hb2 : b < w.heap.size + 1 + 1 := by omega
  have hb3 : b < w.heap.size + 1 + 1 + 1 := by omega
  have hb4 : b < w.heap.size + 1 + 1 + 1 + 1 := by omega
  have hb5 : b < w.heap.size + 1 + 1 + 1 + 1 + 1 := by omega
  go_enter Tryd.func44, Tryd.ntmps44
  go_wp2_with fail
  go_quiet (fail)
  go_wp2_with fail
  refine wp_loop_rounds 5 ?_
  rw [rounds_succ]
  go_wp2_with fail
  rw [rounds_succ]
  go_wp2_with fail
  rw [rounds_succ]
  go_wp2_with fail
  rw [rounds_succ]
  go_wp2_with fail
  rw [rounds_succ]
  go_wp2_with fail
  go_quiet (fail)
  go_wp2_with fail
  go_ret
  exact ⟨rfl, by repeat' (first | exact Below.refl _ _ | refine Below.alloc ?_ (by simp <;> omega) _ | refine below_drewN ?_ _ | refine below_set ?_ _ _)⟩

end Go.Proofs.YtdcgminjamofmaaDoor
