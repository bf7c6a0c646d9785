/- What a store into a row of jobs does to the list. -/
import Derived.Test.YtdcgminjamofmaaDoorDo
namespace Go.Proofs.YtdcgminjamofmaaDoor
open Go.RowKit

theorem flat_set {α β : Type} (g : α → List β) (sz : Nat) (hg : ∀ a, (g a).length = sz) (l : List α) (i f : Nat) (hi : i < l.length) (hf : f < sz) (a : α) (u : β) (ha : g a = (g l[i]).set f u) :
    (l.set i a).flatMap g = (l.flatMap g).set (i * sz + f) u := by
  induction l generalizing i with
  | nil => simp at hi
  | cons b r ih =>
    cases i with
    | zero =>
      simp only [List.set_cons_zero, List.flatMap_cons, Nat.zero_mul, Nat.zero_add]
      rw [List.set_append_left _ _ (by rw [hg]; omega), ha]
      simp
    | succ i =>
      simp only [List.set_cons_succ, List.flatMap_cons]
      rw [List.set_append_right _ _ (by rw [hg, Nat.succ_mul]; omega), hg]
      have e : (i + 1) * sz + f - sz = i * sz + f := by rw [Nat.succ_mul]; omega
      rw [e, ih i (by simpa using hi) (by simpa using ha)]

theorem jobAt_of_own {w : World} {base g c : Nat} {l : List JobS} (h : w.ownsRow base 32 6 (.slice (some ⟨g, 0, none⟩) l.length c) l.length (jobsC l)) (i : Nat) (hi : i < l.length) : JobAt w g (i * 6) l[i] := by
  obtain ⟨b, o, e, hb, c0, c1, c2, c3, c4, c5⟩ := rd_job (Rd.of_own h) i hi
  obtain ⟨rfl, rfl⟩ : g = b ∧ 0 = o := by simp at e; exact e
  simp only [Nat.zero_add] at c0 c1 c2 c3 c4 c5
  refine ⟨hb, c0, c1, c2, c3, c4, c5, fun f => ?_⟩
  rcases h.2 with ⟨h0, _⟩ | ⟨g', cap, cur, hv, hbb, hgg, _⟩
  · simp at h0
  obtain ⟨rfl, rfl⟩ : g' = g ∧ cap = c := by simp at hv; exact ⟨hv.1.symm, hv.2.symm⟩
  simp [World.frozen?, hgg]

/-- The list behind do. -/
theorem own_done {w w' : World} {base g c i : Nat} {l : List JobS} {j' : JobS} {e : Ending} (h : w.ownsRow base 32 6 (.slice (some ⟨g, 0, none⟩) l.length c) l.length (jobsC l)) (hi : i < l.length)
    (hd : DoDone w g (i * 6) l[i] j' e w') : w'.ownsRow base 32 6 (.slice (some ⟨g, 0, none⟩) (l.set i j').length c) (l.set i j').length (jobsC (l.set i j')) ∧ w.grownBy w' (some g) := by
  obtain ⟨_, f, u, hf, hc, hb⟩ := hd
  have h2 := own_keep (h.stored (i * 6 + f) u).1 (by simp [World.setCell]) hb
  have e : jobsC (l.set i j') = (jobsC l).set (i * 6 + f) u := flat_set _ 6 job_len l i f hi hf j' u hc
  rw [e, List.length_set]
  refine ⟨h2, hb.os, hb.tape, hb.output, by simpa [World.setCell] using hb.size, fun k hk hne => ?_⟩
  rw [hb.block k hk]
  exact Below.heap_setCell w ⟨g, i * 6 + f, none⟩ u k (fun e => hne (by rw [e]))
end Go.Proofs.YtdcgminjamofmaaDoor
