/- Contract of slices.Insert at jobs, one job put in: the way in which there is room; all ways together. -/
import Derived.Test.YtdcgminjamofmaaDoorIns
namespace Go.Proofs.YtdcgminjamofmaaDoor
open Go.RowKit

theorem list_shift {α : Type} (X D R N : List α) (h : N.length ≤ R.length) :
    splice (splice (X ++ D ++ R) (X.length + N.length) D) X.length N = (X ++ N ++ D) ++ R.drop N.length := by
  have hl : X.length + N.length + D.length ≤ (X ++ D ++ R).length := by simp only [List.length_append]; omega
  have e1 : (splice (X ++ D ++ R) (X.length + N.length) D).take X.length = X := by
    unfold splice
    rw [List.take_append_of_le_length (by rw [List.length_take]; omega), List.take_take, Nat.min_eq_left (by omega), List.append_assoc, List.take_left]
  have e2 : (splice (X ++ D ++ R) (X.length + N.length) D).drop (X.length + N.length) = D ++ R.drop N.length := by
    unfold splice
    have : ((X ++ D ++ R).take (X.length + N.length)).length = X.length + N.length := by rw [List.length_take]; omega
    rw [List.drop_append, this, List.drop_of_length_le (by omega)]
    simp only [Nat.sub_self, List.drop_zero, List.nil_append]
    congr 1
    rw [List.drop_append, List.drop_of_length_le (by simp only [List.length_append]; omega), List.nil_append]
    congr 1
    simp only [List.length_append]
    omega
  show (splice (X ++ D ++ R) (X.length + N.length) D).take X.length ++ (N ++ (splice (X ++ D ++ R) (X.length + N.length) D).drop (X.length + N.length)) = _
  rw [e1, e2]
  simp

set_option maxHeartbeats 1000000 in
set_option maxRecDepth 100000 in
theorem ins_shift (base g n c i vb : Nat) (xs news : List Value) (w : World) (hown : w.ownsRow base 32 6 (.slice (some ⟨g, 0, none⟩) n c) n xs) (hnl : news.length = 6) (hn1 : ∀ u ∈ news, u.oneCell' = true) (hx1 : ∀ u ∈ xs, u.oneCell' = true)
    (hv : w.heap[vb]? = some (.cells news.toArray 32 (0, 0))) (hvg : vb ≠ g) (hi : i < n) (hc : n + 1 ≤ c) (hn : n ≤ 1000000000) :
    Calls Tryd.prog 43 #[.slice (some ⟨g, 0, none⟩) n c, .int .i64 i, .slice (some ⟨vb, 0, none⟩) 1 1] w (InsRet base w (.slice (some ⟨g, 0, none⟩) n c) (n + 1) (xs.take (i * 6) ++ news ++ xs.drop (i * 6))) := by
  obtain ⟨i0, hi0, hz0, hz1, hz2⟩ := info_parts job_info
  have hxl : xs.length = n * 6 := hown.1
  rcases hown.2 with ⟨h0, _⟩ | ⟨g', cap, cur, hval, hbg, hrow, hncap, hcm, hcs, htake⟩
  · simp at h0
  obtain ⟨rfl, rfl⟩ : g' = g ∧ cap = c := by simp at hval; exact ⟨hval.1.symm, hval.2.symm⟩
  obtain ⟨L, rfl⟩ : ∃ L : List Value, cur = L.toArray := ⟨cur.toList, by simp⟩
  simp only [List.size_toArray] at hcs htake
  have hXl : (xs.take (i * 6)).length = i * 6 := by rw [List.length_take, hxl]; omega
  have hDl : (xs.drop (i * 6)).length = (n - i) * 6 := by rw [List.length_drop, hxl]; omega
  have hL : L = xs.take (i * 6) ++ xs.drop (i * 6) ++ L.drop (n * 6) := by rw [List.take_append_drop, ← htake, List.take_append_drop]
  have hRl : (L.drop (n * 6)).length = cap * 6 - n * 6 := by rw [List.length_drop, hcs]
  have hlst := list_shift (xs.take (i * 6)) (xs.drop (i * 6)) (L.drop (n * 6)) news (by omega)
  rw [← hL, hXl, hnl, show i * 6 + 6 = (i + 1) * 6 by omega] at hlst
  have hcell : ∀ j u, L[j]? = some u → w.cell? ⟨g', j, none⟩ = some u := fun j u hu => by rw [cell_of_row w g' j L.toArray _ _ hrow]; simpa using hu
  have hD : ∀ j u, (xs.drop (i * 6))[j]? = some u → L[i * 6 + j]? = some u := fun j u hu => by
    rw [List.getElem?_drop, ← htake, List.getElem?_take] at hu
    split at hu
    · exact hu
    · cases hu
  have hcp1 : ∀ W : World, W.heap = w.heap → ∀ ty dc sc, (Builtin.copy_ #[26, 26] ty #[.slice (some ⟨g', (i + 1) * 6, none⟩) (n - i) dc, .slice (some ⟨g', i * 6, none⟩) (n + 1 - i) sc]).run Tryd.prog W = .ok (goInt (n - i : Nat)) (W.setRow g' (splice L ((i + 1) * 6) (xs.drop (i * 6))).toArray) := fun W hW ty dc sc => by
    have := run_copy_sz (P := Tryd.prog) W 26 26 ty 32 i0 6 g' ((i + 1) * 6) (n - i) dc ⟨g', i * 6, none⟩ (n + 1 - i) sc (n - i) L.toArray 32 (xs.drop (i * 6)) Tryd.underlying26 hi0 hz1 (by rw [hW]; exact hrow) (by simp only [Nat.min_def]; split <;> omega) hDl
      (fun j u hu => by
        rw [Addr.add_lit, World.cell?_of_block (w := w) (by rw [hW])]
        exact hcell _ _ (hD j u hu)) (by simp [hDl, hcs]; omega) (fun u hu => hx1 u (List.mem_of_mem_drop hu))
    simpa using this
  obtain ⟨W1, hW1⟩ : ∃ W1, W1 = w.drew.setRow g' (splice L ((i + 1) * 6) (xs.drop (i * 6))).toArray := ⟨_, rfl⟩
  have hcp1' := hcp1 w.drew rfl
  rw [← hW1] at hcp1'
  have hrow1 : W1.heap[g']? = some (.cells (splice L ((i + 1) * 6) (xs.drop (i * 6))).toArray 32 (0, 0)) := by rw [hW1]; exact setRow_heap _ _ _ _ _ _ (show w.drew.heap[g']? = _ from hrow)
  have hother : ∀ k, k ≠ g' → W1.heap[k]? = w.heap[k]? := fun k hk => by rw [hW1]; exact setRow_other _ _ _ _ hk
  have hsl : (splice L ((i + 1) * 6) (xs.drop (i * 6))).length = cap * 6 := by rw [length_splice _ _ _ (by rw [hDl, hcs]; omega)]; exact hcs
  have hcp2 : ∀ ty dc, (Builtin.copy_ #[26, 26] ty #[.slice (some ⟨g', i * 6, none⟩) (n + 1 - i) dc, .slice (some ⟨vb, 0, none⟩) 1 1]).run Tryd.prog W1 = .ok (goInt (1 : Nat)) (W1.setRow g' (splice (splice L ((i + 1) * 6) (xs.drop (i * 6))) (i * 6) news).toArray) := fun ty dc => by
    have := run_copy_sz (P := Tryd.prog) W1 26 26 ty 32 i0 6 g' (i * 6) (n + 1 - i) dc ⟨vb, 0, none⟩ 1 1 1 (splice L ((i + 1) * 6) (xs.drop (i * 6))).toArray 32 news Tryd.underlying26 hi0 hz1 hrow1 (by simp only [Nat.min_def]; split <;> omega) (by omega)
      (fun j u hu => by
        rw [Addr.add_lit, World.cell?_of_block (w := w) (hother vb hvg), cell_of_row w vb _ news.toArray _ _ hv]
        simpa using hu) (by simp [hsl, hnl]; omega) hn1
    simpa using this
  rw [hlst] at hcp2
  have hov : ∀ lb cb, (callFunc 52 #[.slice (some ⟨vb, 0, none⟩) 1 1, .slice (some ⟨g', (i + 1) * 6, none⟩) lb cb]).run Tryd.prog w = .ok (.value (.bool false)) w := fun lb cb => by
    rw [run_callFunc_extern Tryd.func52 (by kernel_rfl) (by kernel_rfl) (by kernel_rfl) (e := Extern.SlicesOverlaps.overlaps #[26, 26] #[4]) (by kernel_rfl),
      Lib.run_overlaps_apart w 26 4 32 Tryd.underlying26 6 (fun w => by simp [sizeOf, typeInfo, hi0, hz1]) ⟨vb, 0, none⟩ ⟨g', (i + 1) * 6, none⟩ 1 1 lb cb hvg 32 32 6 (cap * 6) (by simp [World.shape?, hv, hnl]) (by simp [World.shape?, hrow, hcs]) (by omega) (by simp [World.frozen?, hv]) (by simp [World.frozen?, hv])]
    rfl
  have HF := Lib.hid hrow1
  have HOt := Lib.hid hother
  have HXl := Lib.hid hXl
  have HDl := Lib.hid hDl
  have HN := Lib.hid hnl
  have HRl := Lib.hid hRl
  have hos : Hid (W1.os = w.os ∧ W1.tape = w.tape ∧ W1.output = w.output ∧ W1.heap.size = w.heap.size) := by rw [hW1]; exact ⟨rfl, rfl, rfl, by simp [World.setRow]⟩
  have hne : ¬ ((i : Int) = (n : Int)) := by omega
  have hne2 : ¬ (cap = i) := by omega
  have hne3 : ¬ (cap = i + 1) := by omega
  have hcap : ¬ ((cap : Int) < (n : Int) + 1) := by omega
  unfold maxLen at hcm
  clear hcp1 hown hval hxl hrow hv hcell hD hL hRl hlst htake hcs hrow1 hother hsl hXl hDl hnl hW1
  go_enter Tryd.func43, Tryd.ntmps43
  go_wp2_with (simp only [hov])
  go_region
  go_wp2_with fail
  go_ret
  have hXl := HXl.out
  have hDl := HDl.out
  have hN := HN.out
  have hRl := HRl.out
  rw [List.length_drop] at hRl
  have hlen : (xs.take (i * 6) ++ news ++ xs.drop (i * 6)).length = (n + 1) * 6 := by simp only [List.length_append, hXl, hDl, hN]; omega
  refine ⟨.slice (some ⟨g', 0, none⟩) (n + 1) cap, rfl, ⟨hlen, .inr ⟨g', cap, _, rfl, hbg, setRow_heap _ _ _ _ _ _ HF.out, hc, by unfold maxLen; exact hcm, ?_, ?_⟩⟩, ?_⟩
  · simp only [List.size_toArray, List.length_append, hXl, hDl, hN, List.length_drop]
    omega
  · rw [← hlen, List.toList_toArray]
    have e : xs.take (i * 6) ++ (news ++ (xs.drop (i * 6) ++ L.drop (n * 6 + 6))) = (xs.take (i * 6) ++ news ++ xs.drop (i * 6)) ++ L.drop (n * 6 + 6) := by simp
    rw [e, List.take_left]
  · obtain ⟨o1, o2, o3, o4⟩ := hos.out
    refine ⟨o1, o2, o3, ?_, fun k hk hne' => ?_⟩
    · rw [size_setRow, o4]
      exact Nat.le_refl _
    · have hkg : k ≠ g' := fun e => hne' (by simp [Value.ownBlock, e])
      rw [setRow_other _ _ _ _ hkg]
      exact HOt.out k hkg

theorem cells_one (j : JobS) : ∀ u ∈ j.cells, u.oneCell' = true := by
  intro u hu
  simp only [JobS.cells, List.mem_cons, List.not_mem_nil, or_false] at hu
  rcases hu with h | h | h | h | h | h <;> subst h <;> rfl
theorem jobsC_one (l : List JobS) : ∀ u ∈ jobsC l, u.oneCell' = true := by
  intro u hu
  obtain ⟨j, _, hj⟩ := List.mem_flatMap.1 hu
  exact cells_one j u hj

theorem ins_any (base i vb : Nat) (v : Value) (l : List JobS) (j : JobS) (w : World) (hown : w.ownsRow base 32 6 v l.length (jobsC l))
    (hv : w.heap[vb]? = some (.cells j.cells.toArray 32 (0, 0))) (hvg : v.ownBlock ≠ some vb) (hi : i ≤ l.length) (hn : l.length ≤ 1000000000) (hb : base ≤ w.heap.size) :
    Calls Tryd.prog 43 #[v, .int .i64 i, .slice (some ⟨vb, 0, none⟩) 1 1] w (InsRet base w v (l.length + 1) (jobsC (l.take i ++ [j] ++ l.drop i))) := by
  have hvc : ∀ a u, j.cells[a]? = some u → w.cell? ((⟨vb, 0, none⟩ : Addr).add a) = some u := fun a u hu => by
    rw [Addr.add_lit, cell_of_row w vb _ j.cells.toArray _ _ hv]
    simpa using hu
  have hvl : vb < w.heap.size := (Array.getElem?_eq_some_iff.1 hv).1
  have hfl : jobsC (l.take i ++ [j] ++ l.drop i) = (jobsC l).take (i * 6) ++ j.cells ++ (jobsC l).drop (i * 6) := by
    unfold jobsC
    rw [flat_take _ 6 job_len, flat_drop _ 6 job_len, List.flatMap_append, List.flatMap_append]
    simp
  rw [hfl]
  rcases hown.2 with ⟨rfl, h0⟩ | ⟨g, cap, cur, rfl, _, _, hnc, hcm, _, _⟩
  · have hl : l = [] := List.eq_nil_of_length_eq_zero h0
    subst hl
    obtain rfl : i = 0 := by simpa using hi
    exact ins_end base none 0 0 vb [] j.cells w hown rfl (cells_one j) hvc (Nat.le_refl _) (by omega) (by omega) hb
  · unfold maxLen at hcm
    by_cases hin : i = l.length
    · subst hin
      rw [List.take_of_length_le (by rw [jobsC_len]; omega), List.drop_of_length_le (by rw [jobsC_len]; omega), List.append_nil]
      exact ins_end base _ _ cap vb _ j.cells w hown rfl (cells_one j) hvc hnc (by omega) hn hb
    · by_cases hcap : l.length + 1 ≤ cap
      · exact ins_shift base g _ cap i vb _ j.cells w hown rfl (cells_one j) (jobsC_one l) hv (fun e => hvg (by rw [e]; rfl)) (by omega) hcap hn
      · obtain rfl : cap = l.length := by omega
        exact ins_grow base g _ i vb _ j.cells w hown rfl (cells_one j) (jobsC_one l) hvc hvl (by omega) hn hb
end Go.Proofs.YtdcgminjamofmaaDoor
