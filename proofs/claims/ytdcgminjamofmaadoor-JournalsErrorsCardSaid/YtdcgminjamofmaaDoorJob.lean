/- Jobs as plain data; the contract of (*Job).do. -/
import Derived.Test.YtdcgminjamofmaaDoorErrs
import Derived.Test.YtdcgminjamofmaaDoorRecs
import Derived.Deep.QuietTactic
import Derived.BigQuiet
import Derived.RegionTactic
import Derived.BigRegion
namespace Go.Proofs.YtdcgminjamofmaaDoor
open Go.RowKit

structure JobS where
  job : Int
  copies : Int
  printed : Int
  folded : Int
  cut : Int
  deliv : Bool
def JobS.cells (j : JobS) : List Value := [.int .i64 j.job, .int .i64 j.copies, .int .i64 j.printed, .int .i64 j.folded, .int .i64 j.cut, .bool j.deliv]
/-- The numbers of a job are in order. -/
def JobS.inv (j : JobS) : Prop := (1 ≤ j.job ∧ j.job ≤ 65535) ∧ (1 ≤ j.copies ∧ j.copies ≤ 16777215) ∧ 0 ≤ j.cut ∧ j.cut ≤ j.folded ∧ j.folded ≤ j.printed ∧ j.printed ≤ 1000000000

theorem jidx0 (a0 a1 a2 a3 b0 b1 b2 b3 c0 c1 c2 c3 d0 d1 d2 d3 : Value) (w : World) : (Instr.index 106 (.agg #[a0, a1, a2, a3, b0, b1, b2, b3, c0, c1, c2, c3, d0, d1, d2, d3]) (.int .i64 0)).run Tryd.prog w = .ok (.agg #[a0, a1, a2, a3]) w := by kernel_rfl
theorem jidx1 (a0 a1 a2 a3 b0 b1 b2 b3 c0 c1 c2 c3 d0 d1 d2 d3 : Value) (w : World) : (Instr.index 106 (.agg #[a0, a1, a2, a3, b0, b1, b2, b3, c0, c1, c2, c3, d0, d1, d2, d3]) (.int .i64 1)).run Tryd.prog w = .ok (.agg #[b0, b1, b2, b3]) w := by kernel_rfl
theorem jidx2 (a0 a1 a2 a3 b0 b1 b2 b3 c0 c1 c2 c3 d0 d1 d2 d3 : Value) (w : World) : (Instr.index 106 (.agg #[a0, a1, a2, a3, b0, b1, b2, b3, c0, c1, c2, c3, d0, d1, d2, d3]) (.int .i64 2)).run Tryd.prog w = .ok (.agg #[c0, c1, c2, c3]) w := by kernel_rfl
theorem jidx3 (a0 a1 a2 a3 b0 b1 b2 b3 c0 c1 c2 c3 d0 d1 d2 d3 : Value) (w : World) : (Instr.index 106 (.agg #[a0, a1, a2, a3, b0, b1, b2, b3, c0, c1, c2, c3, d0, d1, d2, d3]) (.int .i64 3)).run Tryd.prog w = .ok (.agg #[d0, d1, d2, d3]) w := by kernel_rfl

/-- A store into an old block, made in both worlds. -/
theorem below_set {B : Nat} {w w1 : World} (h : Below B w w1) (p : Addr) (u : Value) : Below B (w.setCell p u) (w1.setCell p u) :=
  ⟨h.os, h.tape, h.output, by simpa [World.setCell] using h.size, fun k hk => by simp only [World.setCell, Array.getElem?_modify]; rw [h.block k hk]⟩

set_option maxHeartbeats 1000000 in
theorem do_print_ok (b o : Nat) (J C P F U t j v : Int) (w : World) (hb : b < w.heap.size)
    (_c0 : w.cell? ⟨b, o, none⟩ = some (.int .i64 J)) (_c1 : w.cell? ⟨b, o + 1, none⟩ = some (.int .i64 C)) (_c2 : w.cell? ⟨b, o + 2, none⟩ = some (.int .i64 P)) (_c3 : w.cell? ⟨b, o + 3, none⟩ = some (.int .i64 F))
    (_c4 : w.cell? ⟨b, o + 4, none⟩ = some (.int .i64 U)) (_c5 : w.cell? ⟨b, o + 5, none⟩ = some (.bool false))
    (_h1 : 0 ≤ U) (_h2 : U ≤ F) (_h3 : F ≤ P) (_h4 : P ≤ 1000000000) (_h5 : 0 ≤ v) (_h6 : v ≤ 16777215) (_hfz : w.frozen? ⟨b, o + 2, none⟩ = false) (_h7 : P + v ≤ 1000000000) :
    Calls Tryd.prog 44 #[.pointer (some ⟨b, o, none⟩), .agg #[.int .i64 t, .int .u8 2, .int .i64 j, .int .i64 v]] w (fun e w' => e = .returned .nilIface ∧ Below w.heap.size (w.setCell ⟨b, o + 2, none⟩ (.int .i64 (P + v))) w') := by
  have i0 := jidx0
  have hb1 : b < w.heap.size + 1 := by omega
  have hb2 : b < w.heap.size + 1 + 1 := by omega
  have hb3 : b < w.heap.size + 1 + 1 + 1 := by omega
  have hb4 : b < w.heap.size + 1 + 1 + 1 + 1 := by omega
  go_enter Tryd.func44, Tryd.ntmps44
  go_wp2_with fail
  go_quiet (fail)
  go_wp2_with fail
  refine wp_loop_rounds 1 ?_
  rw [rounds_succ]
  go_wp2_with fail
  go_quiet (fail)
  go_wp2_with fail
  go_region
  go_wp2_with fail
  go_ret
  exact ⟨rfl, by repeat' (first | exact Below.refl _ _ | refine Below.alloc ?_ (by simp <;> omega) _ | refine below_drewN ?_ _ | refine below_set ?_ _ _)⟩

set_option maxHeartbeats 1000000 in
theorem do_spoil_ok (b o : Nat) (J C P F U t j v : Int) (w : World) (hb : b < w.heap.size)
    (_c0 : w.cell? ⟨b, o, none⟩ = some (.int .i64 J)) (_c1 : w.cell? ⟨b, o + 1, none⟩ = some (.int .i64 C)) (_c2 : w.cell? ⟨b, o + 2, none⟩ = some (.int .i64 P)) (_c3 : w.cell? ⟨b, o + 3, none⟩ = some (.int .i64 F))
    (_c4 : w.cell? ⟨b, o + 4, none⟩ = some (.int .i64 U)) (_c5 : w.cell? ⟨b, o + 5, none⟩ = some (.bool false))
    (_h1 : 0 ≤ U) (_h2 : U ≤ F) (_h3 : F ≤ P) (_h4 : P ≤ 1000000000) (_h5 : 0 ≤ v) (_h6 : v ≤ 16777215) (_hfz : w.frozen? ⟨b, o + 2, none⟩ = false) (_h7 : v ≤ P - F) :
    Calls Tryd.prog 44 #[.pointer (some ⟨b, o, none⟩), .agg #[.int .i64 t, .int .u8 3, .int .i64 j, .int .i64 v]] w (fun e w' => e = .returned .nilIface ∧ Below w.heap.size (w.setCell ⟨b, o + 2, none⟩ (.int .i64 (P - v))) w') := by
  have i0 := jidx0
  have i1 := jidx1
  have hb1 : b < w.heap.size + 1 := by omega
  have hb2 : b < w.heap.size + 1 + 1 := by omega
  have hb3 : b < w.heap.size + 1 + 1 + 1 := by omega
  have hb4 : b < w.heap.size + 1 + 1 + 1 + 1 := by omega
  go_enter Tryd.func44, Tryd.ntmps44
  go_wp2_with fail
  go_quiet (fail)
  go_wp2_with fail
  refine wp_loop_rounds 2 ?_
  rw [rounds_succ]
  go_wp2_with fail
  rw [rounds_succ]
  go_wp2_with fail
  go_quiet (fail)
  go_wp2_with fail
  go_region
  go_wp2_with fail
  go_ret
  exact ⟨rfl, by repeat' (first | exact Below.refl _ _ | refine Below.alloc ?_ (by simp <;> omega) _ | refine below_drewN ?_ _ | refine below_set ?_ _ _)⟩

set_option maxHeartbeats 1000000 in
theorem do_fold_ok (b o : Nat) (J C P F U t j v : Int) (w : World) (hb : b < w.heap.size)
    (_c0 : w.cell? ⟨b, o, none⟩ = some (.int .i64 J)) (_c1 : w.cell? ⟨b, o + 1, none⟩ = some (.int .i64 C)) (_c2 : w.cell? ⟨b, o + 2, none⟩ = some (.int .i64 P)) (_c3 : w.cell? ⟨b, o + 3, none⟩ = some (.int .i64 F))
    (_c4 : w.cell? ⟨b, o + 4, none⟩ = some (.int .i64 U)) (_c5 : w.cell? ⟨b, o + 5, none⟩ = some (.bool false))
    (_h1 : 0 ≤ U) (_h2 : U ≤ F) (_h3 : F ≤ P) (_h4 : P ≤ 1000000000) (_h5 : 0 ≤ v) (_h6 : v ≤ 16777215) (_hfz : w.frozen? ⟨b, o + 3, none⟩ = false) (_h7 : v ≤ P - F) :
    Calls Tryd.prog 44 #[.pointer (some ⟨b, o, none⟩), .agg #[.int .i64 t, .int .u8 4, .int .i64 j, .int .i64 v]] w (fun e w' => e = .returned .nilIface ∧ Below w.heap.size (w.setCell ⟨b, o + 3, none⟩ (.int .i64 (F + v))) w') := by
  have i0 := jidx0
  have i1 := jidx1
  have i2 := jidx2
  have hb1 : b < w.heap.size + 1 := by omega
  have hb2 : b < w.heap.size + 1 + 1 := by omega
  have hb3 : b < w.heap.size + 1 + 1 + 1 := by omega
  have hb4 : b < w.heap.size + 1 + 1 + 1 + 1 := by omega
  go_enter Tryd.func44, Tryd.ntmps44
  go_wp2_with fail
  go_quiet (fail)
  go_wp2_with fail
  refine wp_loop_rounds 3 ?_
  rw [rounds_succ]
  go_wp2_with fail
  rw [rounds_succ]
  go_wp2_with fail
  rw [rounds_succ]
  go_wp2_with fail
  go_quiet (fail)
  go_wp2_with fail
  go_region
  go_wp2_with fail
  go_ret
  exact ⟨rfl, by repeat' (first | exact Below.refl _ _ | refine Below.alloc ?_ (by simp <;> omega) _ | refine below_drewN ?_ _ | refine below_set ?_ _ _)⟩

set_option maxHeartbeats 1000000 in
theorem do_cut_ok (b o : Nat) (J C P F U t j v : Int) (w : World) (hb : b < w.heap.size)
    (_c0 : w.cell? ⟨b, o, none⟩ = some (.int .i64 J)) (_c1 : w.cell? ⟨b, o + 1, none⟩ = some (.int .i64 C)) (_c2 : w.cell? ⟨b, o + 2, none⟩ = some (.int .i64 P)) (_c3 : w.cell? ⟨b, o + 3, none⟩ = some (.int .i64 F))
    (_c4 : w.cell? ⟨b, o + 4, none⟩ = some (.int .i64 U)) (_c5 : w.cell? ⟨b, o + 5, none⟩ = some (.bool false))
    (_h1 : 0 ≤ U) (_h2 : U ≤ F) (_h3 : F ≤ P) (_h4 : P ≤ 1000000000) (_h5 : 0 ≤ v) (_h6 : v ≤ 16777215) (_hfz : w.frozen? ⟨b, o + 4, none⟩ = false) (_h7 : v ≤ F - U) :
    Calls Tryd.prog 44 #[.pointer (some ⟨b, o, none⟩), .agg #[.int .i64 t, .int .u8 5, .int .i64 j, .int .i64 v]] w (fun e w' => e = .returned .nilIface ∧ Below w.heap.size (w.setCell ⟨b, o + 4, none⟩ (.int .i64 (U + v))) w') := by
  have i0 := jidx0
  have i1 := jidx1
  have i2 := jidx2
  have i3 := jidx3
  have hb1 : b < w.heap.size + 1 := by omega
  have hb2 : b < w.heap.size + 1 + 1 := by omega
  have hb3 : b < w.heap.size + 1 + 1 + 1 := by omega
  have hb4 : b < w.heap.size + 1 + 1 + 1 + 1 := by omega
  go_enter Tryd.func44, Tryd.ntmps44
  go_wp2_with fail
  go_quiet (fail)
  go_wp2_with fail
  refine wp_loop_rounds 4 ?_
  rw [rounds_succ]
  go_wp2_with fail
  rw [rounds_succ]
  go_wp2_with fail
  rw [rounds_succ]
  go_wp2_with fail
  rw [rounds_succ]
  go_wp2_with fail
  go_quiet (fail)
  go_wp2_with fail
  go_region
  go_wp2_with fail
  go_ret
  exact ⟨rfl, by repeat' (first | exact Below.refl _ _ | refine Below.alloc ?_ (by simp <;> omega) _ | refine below_drewN ?_ _ | refine below_set ?_ _ _)⟩

set_option maxHeartbeats 1000000 in
theorem do_print_lim (b o : Nat) (J C P F U t j v : Int) (w : World) (hb : b < w.heap.size)
    (_c0 : w.cell? ⟨b, o, none⟩ = some (.int .i64 J)) (_c1 : w.cell? ⟨b, o + 1, none⟩ = some (.int .i64 C)) (_c2 : w.cell? ⟨b, o + 2, none⟩ = some (.int .i64 P)) (_c3 : w.cell? ⟨b, o + 3, none⟩ = some (.int .i64 F))
    (_c4 : w.cell? ⟨b, o + 4, none⟩ = some (.int .i64 U)) (_c5 : w.cell? ⟨b, o + 5, none⟩ = some (.bool false))
    (_h1 : 0 ≤ U) (_h2 : U ≤ F) (_h3 : F ≤ P) (_h4 : P ≤ 1000000000) (_h5 : 0 ≤ v) (_h6 : v ≤ 16777215) (_h7 : ¬ P + v ≤ 1000000000)
    (x : Addr) (hg : w.cell? ⟨4, 0, none⟩ = some (.iface 125 (.pointer (some x)))) :
    Calls Tryd.prog 44 #[.pointer (some ⟨b, o, none⟩), .agg #[.int .i64 t, .int .u8 2, .int .i64 j, .int .i64 v]] w (RetBelow (.iface 125 (.pointer (some x))) w) := by
  have hgl := World.block_lt_of_cell? w ⟨4, 0, none⟩ hg
  dsimp only at hgl
  have hgl1 : 4 < w.heap.size + 1 := by omega
  have hgl2 : 4 < w.heap.size + 1 + 1 := by omega
  have hgl3 : 4 < w.heap.size + 1 + 1 + 1 := by omega
  have hgl4 : 4 < w.heap.size + 1 + 1 + 1 + 1 := by omega
  have i0 := jidx0
  have hb1 : b < w.heap.size + 1 := by omega
  have hb2 : b < w.heap.size + 1 + 1 := by omega
  have hb3 : b < w.heap.size + 1 + 1 + 1 := by omega
  have hb4 : b < w.heap.size + 1 + 1 + 1 + 1 := by omega
  go_enter Tryd.func44, Tryd.ntmps44
  go_wp2_with fail
  go_quiet (fail)
  go_wp2_with fail
  refine wp_loop_rounds 1 ?_
  rw [rounds_succ]
  go_wp2_with fail
  go_quiet (fail)
  go_wp2_with fail
  go_ret
  exact ⟨rfl, by repeat' (first | exact Below.refl _ _ | refine Below.alloc ?_ (by simp <;> omega) _ | refine below_drewN ?_ _ | refine below_set ?_ _ _)⟩

set_option maxHeartbeats 1000000 in
theorem do_print_del (b o : Nat) (J C P F U t j v : Int) (w : World) (hb : b < w.heap.size)
    (_c0 : w.cell? ⟨b, o, none⟩ = some (.int .i64 J)) (_c1 : w.cell? ⟨b, o + 1, none⟩ = some (.int .i64 C)) (_c2 : w.cell? ⟨b, o + 2, none⟩ = some (.int .i64 P)) (_c3 : w.cell? ⟨b, o + 3, none⟩ = some (.int .i64 F))
    (_c4 : w.cell? ⟨b, o + 4, none⟩ = some (.int .i64 U)) (_c5 : w.cell? ⟨b, o + 5, none⟩ = some (.bool true))
    (_h1 : 0 ≤ U) (_h2 : U ≤ F) (_h3 : F ≤ P) (_h4 : P ≤ 1000000000) (_h5 : 0 ≤ v) (_h6 : v ≤ 16777215) 
    (x : Addr) (hg : w.cell? ⟨3, 0, none⟩ = some (.iface 125 (.pointer (some x)))) :
    Calls Tryd.prog 44 #[.pointer (some ⟨b, o, none⟩), .agg #[.int .i64 t, .int .u8 2, .int .i64 j, .int .i64 v]] w (RetBelow (.iface 125 (.pointer (some x))) w) := by
  have hgl := World.block_lt_of_cell? w ⟨3, 0, none⟩ hg
  dsimp only at hgl
  have hgl1 : 3 < w.heap.size + 1 := by omega
  have hgl2 : 3 < w.heap.size + 1 + 1 := by omega
  have hgl3 : 3 < w.heap.size + 1 + 1 + 1 := by omega
  have hgl4 : 3 < w.heap.size + 1 + 1 + 1 + 1 := by omega
  have i0 := jidx0
  have hb1 : b < w.heap.size + 1 := by omega
  have hb2 : b < w.heap.size + 1 + 1 := by omega
  have hb3 : b < w.heap.size + 1 + 1 + 1 := by omega
  have hb4 : b < w.heap.size + 1 + 1 + 1 + 1 := by omega
  go_enter Tryd.func44, Tryd.ntmps44
  go_wp2_with fail
  go_quiet (fail)
  go_wp2_with fail
  refine wp_loop_rounds 1 ?_
  rw [rounds_succ]
  go_wp2_with fail
  go_ret
  exact ⟨rfl, by repeat' (first | exact Below.refl _ _ | refine Below.alloc ?_ (by simp <;> omega) _ | refine below_drewN ?_ _ | refine below_set ?_ _ _)⟩

set_option maxHeartbeats 1000000 in
theorem do_spoil_del (b o : Nat) (J C P F U t j v : Int) (w : World) (hb : b < w.heap.size)
    (_c0 : w.cell? ⟨b, o, none⟩ = some (.int .i64 J)) (_c1 : w.cell? ⟨b, o + 1, none⟩ = some (.int .i64 C)) (_c2 : w.cell? ⟨b, o + 2, none⟩ = some (.int .i64 P)) (_c3 : w.cell? ⟨b, o + 3, none⟩ = some (.int .i64 F))
    (_c4 : w.cell? ⟨b, o + 4, none⟩ = some (.int .i64 U)) (_c5 : w.cell? ⟨b, o + 5, none⟩ = some (.bool true))
    (_h1 : 0 ≤ U) (_h2 : U ≤ F) (_h3 : F ≤ P) (_h4 : P ≤ 1000000000) (_h5 : 0 ≤ v) (_h6 : v ≤ 16777215) 
    (x : Addr) (hg : w.cell? ⟨3, 0, none⟩ = some (.iface 125 (.pointer (some x)))) :
    Calls Tryd.prog 44 #[.pointer (some ⟨b, o, none⟩), .agg #[.int .i64 t, .int .u8 3, .int .i64 j, .int .i64 v]] w (RetBelow (.iface 125 (.pointer (some x))) w) := by
  have hgl := World.block_lt_of_cell? w ⟨3, 0, none⟩ hg
  dsimp only at hgl
  have hgl1 : 3 < w.heap.size + 1 := by omega
  have hgl2 : 3 < w.heap.size + 1 + 1 := by omega
  have hgl3 : 3 < w.heap.size + 1 + 1 + 1 := by omega
  have hgl4 : 3 < w.heap.size + 1 + 1 + 1 + 1 := by omega
  have i0 := jidx0
  have i1 := jidx1
  have hb1 : b < w.heap.size + 1 := by omega
  have hb2 : b < w.heap.size + 1 + 1 := by omega
  have hb3 : b < w.heap.size + 1 + 1 + 1 := by omega
  have hb4 : b < w.heap.size + 1 + 1 + 1 + 1 := by omega
  go_enter Tryd.func44, Tryd.ntmps44
  go_wp2_with fail
  go_quiet (fail)
  go_wp2_with fail
  refine wp_loop_rounds 2 ?_
  rw [rounds_succ]
  go_wp2_with fail
  rw [rounds_succ]
  go_wp2_with fail
  go_ret
  exact ⟨rfl, by repeat' (first | exact Below.refl _ _ | refine Below.alloc ?_ (by simp <;> omega) _ | refine below_drewN ?_ _ | refine below_set ?_ _ _)⟩

set_option maxHeartbeats 1000000 in
theorem do_fold_del (b o : Nat) (J C P F U t j v : Int) (w : World) (hb : b < w.heap.size)
    (_c0 : w.cell? ⟨b, o, none⟩ = some (.int .i64 J)) (_c1 : w.cell? ⟨b, o + 1, none⟩ = some (.int .i64 C)) (_c2 : w.cell? ⟨b, o + 2, none⟩ = some (.int .i64 P)) (_c3 : w.cell? ⟨b, o + 3, none⟩ = some (.int .i64 F))
    (_c4 : w.cell? ⟨b, o + 4, none⟩ = some (.int .i64 U)) (_c5 : w.cell? ⟨b, o + 5, none⟩ = some (.bool true))
    (_h1 : 0 ≤ U) (_h2 : U ≤ F) (_h3 : F ≤ P) (_h4 : P ≤ 1000000000) (_h5 : 0 ≤ v) (_h6 : v ≤ 16777215) 
    (x : Addr) (hg : w.cell? ⟨3, 0, none⟩ = some (.iface 125 (.pointer (some x)))) :
    Calls Tryd.prog 44 #[.pointer (some ⟨b, o, none⟩), .agg #[.int .i64 t, .int .u8 4, .int .i64 j, .int .i64 v]] w (RetBelow (.iface 125 (.pointer (some x))) w) := by
  have hgl := World.block_lt_of_cell? w ⟨3, 0, none⟩ hg
  dsimp only at hgl
  have hgl1 : 3 < w.heap.size + 1 := by omega
  have hgl2 : 3 < w.heap.size + 1 + 1 := by omega
  have hgl3 : 3 < w.heap.size + 1 + 1 + 1 := by omega
  have hgl4 : 3 < w.heap.size + 1 + 1 + 1 + 1 := by omega
  have i0 := jidx0
  have i1 := jidx1
  have i2 := jidx2
  have hb1 : b < w.heap.size + 1 := by omega
  have hb2 : b < w.heap.size + 1 + 1 := by omega
  have hb3 : b < w.heap.size + 1 + 1 + 1 := by omega
  have hb4 : b < w.heap.size + 1 + 1 + 1 + 1 := by omega
  go_enter Tryd.func44, Tryd.ntmps44
  go_wp2_with fail
  go_quiet (fail)
  go_wp2_with fail
  refine wp_loop_rounds 3 ?_
  rw [rounds_succ]
  go_wp2_with fail
  rw [rounds_succ]
  go_wp2_with fail
  rw [rounds_succ]
  go_wp2_with fail
  go_ret
  exact ⟨rfl, by repeat' (first | exact Below.refl _ _ | refine Below.alloc ?_ (by simp <;> omega) _ | refine below_drewN ?_ _ | refine below_set ?_ _ _)⟩

set_option maxHeartbeats 1000000 in
theorem do_cut_del (b o : Nat) (J C P F U t j v : Int) (w : World) (hb : b < w.heap.size)
    (_c0 : w.cell? ⟨b, o, none⟩ = some (.int .i64 J)) (_c1 : w.cell? ⟨b, o + 1, none⟩ = some (.int .i64 C)) (_c2 : w.cell? ⟨b, o + 2, none⟩ = some (.int .i64 P)) (_c3 : w.cell? ⟨b, o + 3, none⟩ = some (.int .i64 F))
    (_c4 : w.cell? ⟨b, o + 4, none⟩ = some (.int .i64 U)) (_c5 : w.cell? ⟨b, o + 5, none⟩ = some (.bool true))
    (_h1 : 0 ≤ U) (_h2 : U ≤ F) (_h3 : F ≤ P) (_h4 : P ≤ 1000000000) (_h5 : 0 ≤ v) (_h6 : v ≤ 16777215) 
    (x : Addr) (hg : w.cell? ⟨3, 0, none⟩ = some (.iface 125 (.pointer (some x)))) :
    Calls Tryd.prog 44 #[.pointer (some ⟨b, o, none⟩), .agg #[.int .i64 t, .int .u8 5, .int .i64 j, .int .i64 v]] w (RetBelow (.iface 125 (.pointer (some x))) w) := by
  have hgl := World.block_lt_of_cell? w ⟨3, 0, none⟩ hg
  dsimp only at hgl
  have hgl1 : 3 < w.heap.size + 1 := by omega
  have hgl2 : 3 < w.heap.size + 1 + 1 := by omega
  have hgl3 : 3 < w.heap.size + 1 + 1 + 1 := by omega
  have hgl4 : 3 < w.heap.size + 1 + 1 + 1 + 1 := by omega
  have i0 := jidx0
  have i1 := jidx1
  have i2 := jidx2
  have i3 := jidx3
  have hb1 : b < w.heap.size + 1 := by omega
  have hb2 : b < w.heap.size + 1 + 1 := by omega
  have hb3 : b < w.heap.size + 1 + 1 + 1 := by omega
  have hb4 : b < w.heap.size + 1 + 1 + 1 + 1 := by omega
  go_enter Tryd.func44, Tryd.ntmps44
  go_wp2_with fail
  go_quiet (fail)
  go_wp2_with fail
  refine wp_loop_rounds 4 ?_
  rw [rounds_succ]
  go_wp2_with fail
  rw [rounds_succ]
  go_wp2_with fail
  rw [rounds_succ]
  go_wp2_with fail
  rw [rounds_succ]
  go_wp2_with fail
  go_ret
  exact ⟨rfl, by repeat' (first | exact Below.refl _ _ | refine Below.alloc ?_ (by simp <;> omega) _ | refine below_drewN ?_ _ | refine below_set ?_ _ _)⟩

set_option maxHeartbeats 1000000 in
theorem do_spoil_room (b o : Nat) (J C P F U t j v : Int) (w : World) (hb : b < w.heap.size)
    (_c0 : w.cell? ⟨b, o, none⟩ = some (.int .i64 J)) (_c1 : w.cell? ⟨b, o + 1, none⟩ = some (.int .i64 C)) (_c2 : w.cell? ⟨b, o + 2, none⟩ = some (.int .i64 P)) (_c3 : w.cell? ⟨b, o + 3, none⟩ = some (.int .i64 F))
    (_c4 : w.cell? ⟨b, o + 4, none⟩ = some (.int .i64 U)) (_c5 : w.cell? ⟨b, o + 5, none⟩ = some (.bool false))
    (_h1 : 0 ≤ U) (_h2 : U ≤ F) (_h3 : F ≤ P) (_h4 : P ≤ 1000000000) (_h5 : 0 ≤ v) (_h6 : v ≤ 16777215) (_h7 : P - F < v)
    (x : Addr) (hg : w.cell? ⟨3, 0, none⟩ = some (.iface 125 (.pointer (some x)))) :
    Calls Tryd.prog 44 #[.pointer (some ⟨b, o, none⟩), .agg #[.int .i64 t, .int .u8 3, .int .i64 j, .int .i64 v]] w (RetBelow (.iface 125 (.pointer (some x))) w) := by
  have hgl := World.block_lt_of_cell? w ⟨3, 0, none⟩ hg
  dsimp only at hgl
  have hgl1 : 3 < w.heap.size + 1 := by omega
  have hgl2 : 3 < w.heap.size + 1 + 1 := by omega
  have hgl3 : 3 < w.heap.size + 1 + 1 + 1 := by omega
  have hgl4 : 3 < w.heap.size + 1 + 1 + 1 + 1 := by omega
  have i0 := jidx0
  have i1 := jidx1
  have hb1 : b < w.heap.size + 1 := by omega
  have hb2 : b < w.heap.size + 1 + 1 := by omega
  have hb3 : b < w.heap.size + 1 + 1 + 1 := by omega
  have hb4 : b < w.heap.size + 1 + 1 + 1 + 1 := by omega
  go_enter Tryd.func44, Tryd.ntmps44
  go_wp2_with fail
  go_quiet (fail)
  go_wp2_with fail
  refine wp_loop_rounds 2 ?_
  rw [rounds_succ]
  go_wp2_with fail
  rw [rounds_succ]
  go_wp2_with fail
  go_ret
  exact ⟨rfl, by repeat' (first | exact Below.refl _ _ | refine Below.alloc ?_ (by simp <;> omega) _ | refine below_drewN ?_ _ | refine below_set ?_ _ _)⟩

set_option maxHeartbeats 1000000 in
theorem do_fold_room (b o : Nat) (J C P F U t j v : Int) (w : World) (hb : b < w.heap.size)
    (_c0 : w.cell? ⟨b, o, none⟩ = some (.int .i64 J)) (_c1 : w.cell? ⟨b, o + 1, none⟩ = some (.int .i64 C)) (_c2 : w.cell? ⟨b, o + 2, none⟩ = some (.int .i64 P)) (_c3 : w.cell? ⟨b, o + 3, none⟩ = some (.int .i64 F))
    (_c4 : w.cell? ⟨b, o + 4, none⟩ = some (.int .i64 U)) (_c5 : w.cell? ⟨b, o + 5, none⟩ = some (.bool false))
    (_h1 : 0 ≤ U) (_h2 : U ≤ F) (_h3 : F ≤ P) (_h4 : P ≤ 1000000000) (_h5 : 0 ≤ v) (_h6 : v ≤ 16777215) (_h7 : P - F < v)
    (x : Addr) (hg : w.cell? ⟨3, 0, none⟩ = some (.iface 125 (.pointer (some x)))) :
    Calls Tryd.prog 44 #[.pointer (some ⟨b, o, none⟩), .agg #[.int .i64 t, .int .u8 4, .int .i64 j, .int .i64 v]] w (RetBelow (.iface 125 (.pointer (some x))) w) := by
  have hgl := World.block_lt_of_cell? w ⟨3, 0, none⟩ hg
  dsimp only at hgl
  have hgl1 : 3 < w.heap.size + 1 := by omega
  have hgl2 : 3 < w.heap.size + 1 + 1 := by omega
  have hgl3 : 3 < w.heap.size + 1 + 1 + 1 := by omega
  have hgl4 : 3 < w.heap.size + 1 + 1 + 1 + 1 := by omega
  have i0 := jidx0
  have i1 := jidx1
  have i2 := jidx2
  have hb1 : b < w.heap.size + 1 := by omega
  have hb2 : b < w.heap.size + 1 + 1 := by omega
  have hb3 : b < w.heap.size + 1 + 1 + 1 := by omega
  have hb4 : b < w.heap.size + 1 + 1 + 1 + 1 := by omega
  go_enter Tryd.func44, Tryd.ntmps44
  go_wp2_with fail
  go_quiet (fail)
  go_wp2_with fail
  refine wp_loop_rounds 3 ?_
  rw [rounds_succ]
  go_wp2_with fail
  rw [rounds_succ]
  go_wp2_with fail
  rw [rounds_succ]
  go_wp2_with fail
  go_ret
  exact ⟨rfl, by repeat' (first | exact Below.refl _ _ | refine Below.alloc ?_ (by simp <;> omega) _ | refine below_drewN ?_ _ | refine below_set ?_ _ _)⟩

set_option maxHeartbeats 1000000 in
theorem do_cut_room (b o : Nat) (J C P F U t j v : Int) (w : World) (hb : b < w.heap.size)
    (_c0 : w.cell? ⟨b, o, none⟩ = some (.int .i64 J)) (_c1 : w.cell? ⟨b, o + 1, none⟩ = some (.int .i64 C)) (_c2 : w.cell? ⟨b, o + 2, none⟩ = some (.int .i64 P)) (_c3 : w.cell? ⟨b, o + 3, none⟩ = some (.int .i64 F))
    (_c4 : w.cell? ⟨b, o + 4, none⟩ = some (.int .i64 U)) (_c5 : w.cell? ⟨b, o + 5, none⟩ = some (.bool false))
    (_h1 : 0 ≤ U) (_h2 : U ≤ F) (_h3 : F ≤ P) (_h4 : P ≤ 1000000000) (_h5 : 0 ≤ v) (_h6 : v ≤ 16777215) (_h7 : F - U < v)
    (x : Addr) (hg : w.cell? ⟨3, 0, none⟩ = some (.iface 125 (.pointer (some x)))) :
    Calls Tryd.prog 44 #[.pointer (some ⟨b, o, none⟩), .agg #[.int .i64 t, .int .u8 5, .int .i64 j, .int .i64 v]] w (RetBelow (.iface 125 (.pointer (some x))) w) := by
  have hgl := World.block_lt_of_cell? w ⟨3, 0, none⟩ hg
  dsimp only at hgl
  have hgl1 : 3 < w.heap.size + 1 := by omega
  have hgl2 : 3 < w.heap.size + 1 + 1 := by omega
  have hgl3 : 3 < w.heap.size + 1 + 1 + 1 := by omega
  have hgl4 : 3 < w.heap.size + 1 + 1 + 1 + 1 := by omega
  have i0 := jidx0
  have i1 := jidx1
  have i2 := jidx2
  have i3 := jidx3
  have hb1 : b < w.heap.size + 1 := by omega
  have hb2 : b < w.heap.size + 1 + 1 := by omega
  have hb3 : b < w.heap.size + 1 + 1 + 1 := by omega
  have hb4 : b < w.heap.size + 1 + 1 + 1 + 1 := by omega
  go_enter Tryd.func44, Tryd.ntmps44
  go_wp2_with fail
  go_quiet (fail)
  go_wp2_with fail
  refine wp_loop_rounds 4 ?_
  rw [rounds_succ]
  go_wp2_with fail
  rw [rounds_succ]
  go_wp2_with fail
  rw [rounds_succ]
  go_wp2_with fail
  rw [rounds_succ]
  go_wp2_with fail
  go_ret
  exact ⟨rfl, by repeat' (first | exact Below.refl _ _ | refine Below.alloc ?_ (by simp <;> omega) _ | refine below_drewN ?_ _ | refine below_set ?_ _ _)⟩

end Go.Proofs.YtdcgminjamofmaaDoor
