/- Plain: a job that is delivered has been cut often enough. -/
import Derived.Test.YtdcgminjamofmaaDoorTab
namespace Go.Proofs.YtdcgminjamofmaaDoor

def JobS.dinv (j : JobS) : Prop := j.deliv = true → j.copies ≤ j.cut
theorem doS_dinv {j j' : JobS} {k v : Int} (h : doS j k v = .inr j') : j'.dinv := by
  unfold doS at h
  repeat' split at h
  all_goals first | (cases h; done) | (cases h; intro hd; first | (simp_all; done) | omega)
theorem nextS_dinv {l l' : List JobS} {now : Int} {r : Rec} (hl : ∀ j ∈ l, j.dinv) (h : nextS l now r = .inr l') : ∀ j ∈ l', j.dinv := by
  unfold nextS at h
  repeat' split at h
  all_goals first | (cases h; done) | skip
  · cases h
    intro j hj
    unfold insL at hj
    simp only [List.mem_append, List.mem_cons, List.not_mem_nil, or_false] at hj
    rcases hj with (hj | rfl) | hj
    · exact hl j (List.mem_of_mem_take hj)
    · intro hd; cases hd
    · exact hl j (List.mem_of_mem_drop hj)
  · rename_i j1 hd
    cases h
    intro j hj
    rcases List.mem_or_eq_of_mem_set hj with hj | rfl
    · exact hl j hj
    · exact doS_dinv hd
theorem replayS_dinv (l : List JobS) (now : Int) (i : Nat) (a : List Rec) (hl : ∀ j ∈ l, j.dinv) : ∀ j ∈ (replayS l now i a).1, j.dinv := by
  induction a generalizing l now i with
  | nil => simpa [replayS] using hl
  | cons r a ih =>
    unfold replayS
    cases h : nextS l now r with
    | inl p => exact hl
    | inr l' => exact ih l' r.t (i + 1) (nextS_dinv hl h)
theorem replay_dinv (a : List Rec) : ∀ j ∈ (replay a).1, j.dinv := replayS_dinv [] 0 0 a (by simp)
end Go.Proofs.YtdcgminjamofmaaDoor
