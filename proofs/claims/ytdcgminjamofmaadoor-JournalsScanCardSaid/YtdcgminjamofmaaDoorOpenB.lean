/- A slice of bytes that came in. -/
import Derived.Test.YtdcgminjamofmaaDoorShut2
namespace Go.Proofs.YtdcgminjamofmaaDoor
open Go.ChangeShapes Go.WideShapes Go.ChangeAt Go.RowKit Go.Deep

set_option maxRecDepth 100000 in
theorem open_B {H : Type} {enc : TypeId × Value → H} {W : World} {base : Nat} {v : Value} {d : DataW H} {p : List MemPlace} (hv : Value.okWide Tryd.prog W .any base 39 v)
    (h : DataW.Trod enc Tryd.prog W 0 (fun _ => true) true 39 v d p) : ∃ A c, ∃ l : List Int, v = .slice A l.length c ∧ Rd W A 1 l.length (bts l) ∧ (A = none → l.length = 0) ∧ (∀ x ∈ l, 0 ≤ x ∧ x ≤ 255) ∧ l.length ≤ 9223372036854775807 := by
  obtain ⟨a0, len, cap, rfl⟩ := okWide_slice Tryd.underlying39 hv
  obtain ⟨fuel, hf⟩ := h
  rcases open_slice Tryd.underlying39 hf with ⟨hcs, _⟩ | ⟨a, len', cap', m, n, D, Pl, hcs, _, hl, hm, hmm, _, hi⟩
  · simp [Value.cells] at hcs
    obtain ⟨rfl, rfl, rfl⟩ := hcs
    exact ⟨none, 0, [], rfl, Rd.nil, fun _ => rfl, by simp, by simp⟩
  · simp [Value.cells] at hcs
    obtain ⟨rfl, rfl, rfl⟩ := hcs
    simp only [if_true] at hmm
    subst hmm
    have key : ∀ i, i < len → ∃ x : Int, W.cell? (a.add i) = some (.int .u8 x) ∧ 0 ≤ x ∧ x ≤ 255 := by
      intro i hil
      obtain ⟨cs', hc, ht'⟩ := hi i (by omega)
      rw [cells5] at hc
      obtain ⟨_, hcl, hat⟩ := World.cells?_some hc
      match cs', hcl with
      | [u], _ =>
        obtain ⟨x, hx', _, hw⟩ := DataW.trod_int Tryd.underlying5 ht'
        have hu : u = .int .u8 x := by simpa using hx'
        refine ⟨x, ?_, wf_u8 hw⟩
        have h0 := hat 0 (by omega)
        rw [Nat.mul_one, Go.Deep.add_add, Nat.add_zero] at h0
        rw [h0, hu]
        rfl
    have hat : ∀ i, i < len → W.cell? (a.add i) = some (.int .u8 (byteAt W (a.add i))) ∧ 0 ≤ byteAt W (a.add i) ∧ byteAt W (a.add i) ≤ 255 := by
      intro i hil
      obtain ⟨x, hx, hb⟩ := key i hil
      have : byteAt W (a.add i) = x := by unfold byteAt; rw [hx]
      rw [this]
      exact ⟨hx, hb⟩
    refine ⟨some a, m, (List.range len).map fun i => byteAt W (a.add i), by simp, ?_, by simp, ?_, ?_⟩
    · have hll : ((List.range len).map fun i => byteAt W (a.add i)).length = len := by simp
      rw [hll]
      refine ⟨by simp [bts], fun hn => ?_⟩
      have h00 := (hat 0 hn).1
      have hsp : a.spot = none := by
        unfold World.cell? Addr.add at h00
        simp only [if_true] at h00
        split at h00
        · split at h00
          · cases h00
          · rename_i hh; simpa using hh
        · cases h00
      refine ⟨a.block, a.off, by cases a; simp_all, by have := World.block_lt_of_cell? W _ h00; simpa [Addr.add] using this, fun j u hu => ?_⟩
      have hj : j < len := by
        have := (List.getElem?_eq_some_iff.1 hu).1
        simpa [bts] using this
      have h1 := (hat j hj).1
      have hu' : u = .int .u8 (byteAt W (a.add j)) := by
        simp [bts, hj] at hu
        exact hu.symm
      rw [hu', ← h1, add_spot a j h1 hsp]
    · intro x hx
      obtain ⟨i, hi', rfl⟩ := List.mem_map.1 hx
      exact (hat i (by simpa using hi')).2
    · simp
      unfold maxLen at hm
      omega
theorem readB : Tryd.prog.readableRec 39 = true := by kernel_rfl
theorem ltB : 39 < Tryd.prog.types.size := of_decide_eq_true (by kernel_rfl)
end Go.Proofs.YtdcgminjamofmaaDoor
