/- crimplaw42.jobs on two lists that are equal; crimplaw42.example. -/
import Derived.Test.YtdcgminjamofmaaDoorReplay
namespace Go.Proofs.YtdcgminjamofmaaDoor
open Go.RowKit

set_option maxHeartbeats 1000000 in
theorem jobs_same (A B : Option Addr) (l : List JobS) (n d : Nat) (w : World) (hn : n = l.length) (hA : Rd w A 6 n (jobsC l)) (hB : Rd w B 6 n (jobsC l)) (hl : n ≤ 1000000000) :
    Calls Tryd.prog 13 #[.slice A n n, .slice B n d] w (RetBelow (.bool true) w) := by
  subst hn
  go_enter Tryd.func13, Tryd.ntmps13
  go_wp2
  go_loopw [5] (fun i wr => ∃ k : Nat, k ≤ l.length ∧ i = .int .i64 k ∧ ∃ q, wr = w.drewN q) (fun i _ => l.length - (intOf i).toNat)
  case atStart => exact ⟨0, by omega, rfl, 0, rfl⟩
  case round =>
    obtain ⟨k, hk, rfl, q, rfl⟩ := hrel
    by_cases hlt : k < l.length
    · obtain ⟨b, o, rfl, hbl, c0, c1, c2, c3, c4, c5⟩ := rd_job hA k hlt
      obtain ⟨b', o', rfl, hbl', e0, e1, e2, e3, e4, e5⟩ := rd_job hB k hlt
      generalize l[k] = r at *
      have hki : ((k : Nat) : Int) < (l.length : Int) := by omega
      go_wp2_with fail
      go_quiet (fail)
      go_wp2_with fail
      exact ⟨⟨k + 1, by omega, by go_num, q + nq, rfl⟩, by simp [intOf]; omega⟩
    · go_wp2
      go_ret
      exact ⟨rfl, below_drewN (Below.refl _ _) _⟩

def exRecs (x : Int) : List Rec := [⟨0, 1, 1, 10⟩, ⟨5, 2, 1, 12⟩, ⟨9, 4, 1, 11⟩, ⟨9, 3, 1, x⟩, ⟨12, 5, 1, 10⟩, ⟨20, 6, 1, 0⟩]
def ExRet (x : Int) (w : World) (e : Ending) (w' : World) : Prop := ∃ A, e = .returned (.slice A 6 6) ∧ Rd w' A 4 6 (recs (exRecs x)) ∧ Below w.heap.size w w'
set_option maxHeartbeats 400000 in
theorem example_any (x : Int) (w : World) : Calls Tryd.prog 27 #[.int .i64 x] w (ExRet x w) := by
  go_enter Tryd.func27, Tryd.ntmps27
  go_wp2
  go_ret
  exact ⟨_, rfl, rd_new (recs (exRecs x)) 6 4 rfl rfl, (Below.refl _ _).alloc (Nat.le_refl _) _⟩
end Go.Proofs.YtdcgminjamofmaaDoor
