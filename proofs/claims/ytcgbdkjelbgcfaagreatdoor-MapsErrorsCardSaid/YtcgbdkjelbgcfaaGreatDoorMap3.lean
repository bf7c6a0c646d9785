/- Contracts of the maps' small functions: right, up, opposite, all, left. -/
import Derived.Test.YtcgbdkjelbgcfaaGreatDoorMap2
namespace Go.Proofs.YtcgbdkjelbgcfaaGreatDoor
open Go.RowKit

/-- The kind at a place of rows. -/
def getK (rs : List Row) (y x : Nat) : Option Int := rs[y]?.bind fun r => r.ks[x]?
theorem getK_some {rs : List Row} {y x : Nat} {v : Int} (h : getK rs y x = some v) : ∃ hy : y < rs.length, ∃ hx : x < rs[y].ks.length, rs[y].ks[x] = v := by
  unfold getK at h
  cases hr : rs[y]? with
  | none => rw [hr] at h; cases h
  | some r =>
    rw [hr] at h
    obtain ⟨hy, rfl⟩ := List.getElem?_eq_some_iff.1 hr
    obtain ⟨hx, hv⟩ := List.getElem?_eq_some_iff.1 h
    exact ⟨hy, hx, hv⟩
/-- The cells on the way to a kind. -/
theorem getK_cells {w : World} {A : Option Addr} {rs : List Row} {y x : Nat} {v : Int} (hm : RowsOk w A rs) (h : getK rs y x = some v) :
    ∃ b o b' o' n c, A = some ⟨b, o, none⟩ ∧ y < rs.length ∧ b < w.heap.size ∧ b' < w.heap.size ∧ w.cell? ⟨b, o + y, none⟩ = some (.slice (some ⟨b', o', none⟩) n c) ∧ x < n ∧ w.cell? ⟨b', o' + x, none⟩ = some (.int .u8 v) := by
  obtain ⟨hy, hx, rfl⟩ := getK_some h
  obtain ⟨b, o, hA, hb, hc⟩ := hm.at' y hy
  obtain ⟨b', o', hA', hb', hc'⟩ := (hm.row rs[y] (List.getElem_mem _)).at' x hx
  rw [hA'] at hc
  exact ⟨b, o, b', o', _, _, hA, hy, hb, hb', hc, hx, hc'⟩
def rtK (R U : List Row) (way : Nat) (i k : Nat) : Option Int := if way = 0 then getK R k i else getK U i k
def upK (R U : List Row) (way : Nat) (i k : Nat) : Option Int := if way = 0 then getK U k i else getK R i k

set_option maxHeartbeats 1000000 in
theorem right_any (W H : Int) (RA UA : Option Addr) (R U : List Row) (cr cu : Nat) (way i k : Nat) (v : Int) (w : World) (hm : MapOk w RA UA R U) (hv : rtK R U way i k = some v) :
    Calls Tryz.prog 44 #[.agg #[.int .i64 W, .int .i64 H, .slice RA R.length cr, .slice UA U.length cu], .int .i64 way, .int .i64 i, .int .i64 k] w (RetBelow (.int .u8 v) w) := by
  have hb1 : Below w.heap.size w (w.alloc (.cells #[.int .i64 W, .int .i64 H, .slice RA R.length cr, .slice UA U.length cu] 24)) := (Below.refl _ _).alloc (Nat.le_refl _) _
  by_cases hw : way = 0
  · subst hw
    have hg : getK R k i = some v := hv
    obtain ⟨b, o, b', o', n, c, rfl, hy, hb, hb', c1, hx, c2⟩ := getK_cells hm.r hg
    have q1 : (k : Int) < (R.length : Int) := by omega
    have q2 : (i : Int) < (n : Int) := by omega
    clear hv hg hm
    go_enter Tryz.func44, Tryz.ntmps44
    go_wp2_with fail
    go_ret
    exact ⟨rfl, hb1⟩
  · have hg : getK U i k = some v := by unfold rtK at hv; rw [if_neg hw] at hv; exact hv
    obtain ⟨b, o, b', o', n, c, rfl, hy, hb, hb', c1, hx, c2⟩ := getK_cells hm.u hg
    have q0 : ((way : Int) == 0) = false := by simp; omega
    have q1 : (i : Int) < (U.length : Int) := by omega
    have q2 : (k : Int) < (n : Int) := by omega
    clear hv hg hm hw
    go_enter Tryz.func44, Tryz.ntmps44
    go_wp2_with fail
    go_ret
    exact ⟨rfl, hb1⟩

set_option maxHeartbeats 1000000 in
theorem up_any (W H : Int) (RA UA : Option Addr) (R U : List Row) (cr cu : Nat) (way i k : Nat) (v : Int) (w : World) (hm : MapOk w RA UA R U) (hv : upK R U way i k = some v) :
    Calls Tryz.prog 46 #[.agg #[.int .i64 W, .int .i64 H, .slice RA R.length cr, .slice UA U.length cu], .int .i64 way, .int .i64 i, .int .i64 k] w (RetBelow (.int .u8 v) w) := by
  have hb1 : Below w.heap.size w (w.alloc (.cells #[.int .i64 W, .int .i64 H, .slice RA R.length cr, .slice UA U.length cu] 24)) := (Below.refl _ _).alloc (Nat.le_refl _) _
  by_cases hw : way = 0
  · subst hw
    have hg : getK U k i = some v := hv
    obtain ⟨b, o, b', o', n, c, rfl, hy, hb, hb', c1, hx, c2⟩ := getK_cells hm.u hg
    have q1 : (k : Int) < (U.length : Int) := by omega
    have q2 : (i : Int) < (n : Int) := by omega
    clear hv hg hm
    go_enter Tryz.func46, Tryz.ntmps46
    go_wp2_with fail
    go_ret
    exact ⟨rfl, hb1⟩
  · have hg : getK R i k = some v := by unfold upK at hv; rw [if_neg hw] at hv; exact hv
    obtain ⟨b, o, b', o', n, c, rfl, hy, hb, hb', c1, hx, c2⟩ := getK_cells hm.r hg
    have q0 : ((way : Int) == 0) = false := by simp; omega
    have q1 : (i : Int) < (R.length : Int) := by omega
    have q2 : (k : Int) < (n : Int) := by omega
    clear hv hg hm hw
    go_enter Tryz.func46, Tryz.ntmps46
    go_wp2_with fail
    go_ret
    exact ⟨rfl, hb1⟩

def opp (k : Int) : Int := if k = 1 then 2 else if k = 2 then 1 else 0
set_option maxHeartbeats 400000 in
theorem opposite_any (k : Int) (w : World) (h : 0 ≤ k ∧ k ≤ 2) : Calls Tryz.prog 45 #[.int .u8 k] w fun e w' => e = .returned (.int .u8 (opp k)) ∧ w = w' := by
  have i0 : ∀ w, (Instr.index 121 (.agg #[.int .u8 0, .int .u8 2, .int .u8 1]) (.int .u8 0)).run Tryz.prog w = .ok (.int .u8 0) w := fun _ => by kernel_rfl
  have i1 : ∀ w, (Instr.index 121 (.agg #[.int .u8 0, .int .u8 2, .int .u8 1]) (.int .u8 1)).run Tryz.prog w = .ok (.int .u8 2) w := fun _ => by kernel_rfl
  have i2 : ∀ w, (Instr.index 121 (.agg #[.int .u8 0, .int .u8 2, .int .u8 1]) (.int .u8 2)).run Tryz.prog w = .ok (.int .u8 1) w := fun _ => by kernel_rfl
  obtain rfl | rfl | rfl : k = 0 ∨ k = 1 ∨ k = 2 := by omega
  all_goals
    go_enter Tryz.func45, Tryz.ntmps45
    go_wp2_with fail
    go_ret
    exact ⟨rfl, rfl⟩

set_option maxHeartbeats 400000 in
theorem all_any (W H : Int) (r u : Value) (w : World) : Calls Tryz.prog 19 #[.agg #[.int .i64 W, .int .i64 H, r, u]] w (RetBelow (.agg #[.int .i64 0, .int .i64 W, .int .i64 0, .int .i64 H]) w) := by
  go_enter Tryz.func19, Tryz.ntmps19
  go_wp2_with fail
  refine bodyPost_ret (v := .agg #[.int .i64 0, .int .i64 W, .int .i64 0, .int .i64 H]) (by simp [results, Tryz.results19, go_sem]) rfl ⟨rfl, ?_⟩
  repeat' (first | exact Below.refl _ _ | refine Below.drew ?_ | refine Below.setCell ?_ (by simp) _ | refine Below.alloc ?_ (by simp) _)
end Go.Proofs.YtcgbdkjelbgcfaaGreatDoor
