/- Contract of slices.Insert at jobs, one job put in. -/
import Derived.Test.YtdcgminjamofmaaDoorBin
import Derived.Test.YtdcgminjamofmaaDoorSliceLaws
import Derived.Lib.Overlaps
import Derived.Deep.RegionLaw
namespace Go.Proofs.YtdcgminjamofmaaDoor
open Go.RowKit

theorem job_info : (Tryd.prog.info? 32).map (fun i => (i.zero, i.size, i.bytes)) = some (some (.agg #[.int .i64 0, .int .i64 0, .int .i64 0, .int .i64 0, .int .i64 0, .bool false]), 6, 48) := by kernel_rfl

def InsRet (base : Nat) (w : World) (v : Value) (n : Nat) (xs : List Value) (e : Ending) (w' : World) : Prop :=
  ∃ v', e = .returned v' ∧ w'.ownsRow base 32 6 v' n xs ∧ w.grownBy w' v.ownBlock

set_option maxHeartbeats 1000000 in
set_option maxRecDepth 100000 in
theorem ins_end_full (base : Nat) (A : Option Addr) (n vb : Nat) (xs news : List Value) (w : World) (hown : w.ownsRow base 32 6 (.slice A n n) n xs) (hnl : news.length = 6) (hn1 : ∀ u ∈ news, u.oneCell' = true)
    (hv : ∀ j u, news[j]? = some u → w.cell? ((⟨vb, 0, none⟩ : Addr).add j) = some u) (hn : n ≤ 1000000000) (hb : base ≤ w.heap.size) :
    Calls Tryd.prog 43 #[.slice A n n, .int .i64 n, .slice (some ⟨vb, 0, none⟩) 1 1] w (InsRet base w (.slice A n n) (n + 1) (xs ++ news)) := by
  obtain ⟨i0, hi0, hz0, hz1, hz2⟩ := info_parts job_info
  have HO := Lib.hid hown
  have HV := Lib.hid hv
  clear hown hv
  go_enter Tryd.func43, Tryd.ntmps43
  go_wp2_with (at_builtin; refine wpList_append_own _ rfl _ _ 26 rfl base 32 i0 _ 6 48 Tryd.underlying26 hi0 hz0 hz1 hz2 rfl (by decide) _ _ _ rfl HO.out ⟨vb, 0, none⟩ 1 1 news rfl ?c0 HV.out hn1 ?c3 ?c4 hb ?_)
  case c0 => omega
  case c3 => unfold maxLen; omega
  case c4 => omega
  intro v' w1 hown' hgrow _
  have HO' := Lib.hid hown'
  clear hown'
  go_wp2
  go_ret
  exact ⟨v', rfl, HO'.out, hgrow⟩

set_option maxHeartbeats 1000000 in
set_option maxRecDepth 100000 in
theorem ins_end_room (base : Nat) (A : Option Addr) (n c vb : Nat) (xs news : List Value) (w : World) (hown : w.ownsRow base 32 6 (.slice A n c) n xs) (hnl : news.length = 6) (hn1 : ∀ u ∈ news, u.oneCell' = true)
    (hv : ∀ j u, news[j]? = some u → w.cell? ((⟨vb, 0, none⟩ : Addr).add j) = some u) (_hnc : n ≤ c) (_hcn : ¬ c = n) (_hc : c ≤ 9223372036854775807) (hn : n ≤ 1000000000) (hb : base ≤ w.heap.size) :
    Calls Tryd.prog 43 #[.slice A n c, .int .i64 n, .slice (some ⟨vb, 0, none⟩) 1 1] w (InsRet base w (.slice A n c) (n + 1) (xs ++ news)) := by
  obtain ⟨i0, hi0, hz0, hz1, hz2⟩ := info_parts job_info
  have HO := Lib.hid hown
  have HV := Lib.hid hv
  clear hown hv
  go_enter Tryd.func43, Tryd.ntmps43
  go_wp2_with (at_builtin; refine wpList_append_own _ rfl _ _ 26 rfl base 32 i0 _ 6 48 Tryd.underlying26 hi0 hz0 hz1 hz2 rfl (by decide) _ _ _ rfl HO.out ⟨vb, 0, none⟩ 1 1 news rfl ?c0 HV.out hn1 ?c3 ?c4 hb ?_)
  case c0 => omega
  case c3 => unfold maxLen; omega
  case c4 => omega
  intro v' w1 hown' hgrow _
  have HO' := Lib.hid hown'
  clear hown'
  go_wp2
  go_ret
  exact ⟨v', rfl, HO'.out, hgrow⟩

theorem ins_end (base : Nat) (A : Option Addr) (n c vb : Nat) (xs news : List Value) (w : World) (hown : w.ownsRow base 32 6 (.slice A n c) n xs) (hnl : news.length = 6) (hn1 : ∀ u ∈ news, u.oneCell' = true)
    (hv : ∀ j u, news[j]? = some u → w.cell? ((⟨vb, 0, none⟩ : Addr).add j) = some u) (hnc : n ≤ c) (hc : c ≤ 9223372036854775807) (hn : n ≤ 1000000000) (hb : base ≤ w.heap.size) :
    Calls Tryd.prog 43 #[.slice A n c, .int .i64 n, .slice (some ⟨vb, 0, none⟩) 1 1] w (InsRet base w (.slice A n c) (n + 1) (xs ++ news)) := by
  by_cases h : c = n
  · subst h
    exact ins_end_full base A c vb xs news w hown hnl hn1 hv hn hb
  · exact ins_end_room base A n c vb xs news w hown hnl hn1 hv hnc h hc hn hb

theorem list_ins {α : Type} (X N D Z : List α) :
    splice (splice (X ++ Z) X.length N) (X.length + N.length) D = (X ++ N ++ D) ++ Z.drop (N.length + D.length) := by
  unfold splice
  rw [List.take_left]
  have e1 : (X ++ Z).drop (X.length + N.length) = Z.drop N.length := by rw [List.drop_append, List.drop_of_length_le (by omega)]; simp
  rw [e1]
  have e2 : (X ++ (N ++ Z.drop N.length)).take (X.length + N.length) = X ++ N := by
    rw [← List.append_assoc, ← List.length_append, List.take_left]
  have e3 : (X ++ (N ++ Z.drop N.length)).drop (X.length + N.length + D.length) = Z.drop (N.length + D.length) := by
    rw [← List.append_assoc, List.drop_append, List.drop_of_length_le (by simp)]
    simp
  rw [e2, e3]
  simp

set_option maxHeartbeats 1000000 in
set_option maxRecDepth 100000 in
theorem ins_grow (base g n i vb : Nat) (xs news : List Value) (w : World) (hown : w.ownsRow base 32 6 (.slice (some ⟨g, 0, none⟩) n n) n xs) (hnl : news.length = 6) (hn1 : ∀ u ∈ news, u.oneCell' = true) (hx1 : ∀ u ∈ xs, u.oneCell' = true)
    (hv : ∀ j u, news[j]? = some u → w.cell? ((⟨vb, 0, none⟩ : Addr).add j) = some u) (hvb : vb < w.heap.size) (hi : i < n) (hn : n ≤ 1000000000) (hb : base ≤ w.heap.size) :
    Calls Tryd.prog 43 #[.slice (some ⟨g, 0, none⟩) n n, .int .i64 i, .slice (some ⟨vb, 0, none⟩) 1 1] w (InsRet base w (.slice (some ⟨g, 0, none⟩) n n) (n + 1) (xs.take (i * 6) ++ news ++ xs.drop (i * 6))) := by
  obtain ⟨i0, hi0, hz0, hz1, hz2⟩ := info_parts job_info
  have hgl := (hown.lt g rfl).2
  have hcell := hown.cells (g := g) rfl
  have hxl : xs.length = n * 6 := hown.1
  have hz : (0 : Nat) < n + 1 - i := by omega
  have e1 : i + (n + 1 - i) = n + 1 := by omega
  obtain ⟨C, W1, Z, hap, hC1, hC2, hZ, hrow, hbel, hsz1⟩ := append_zeros_own (P := Tryd.prog) w 26 3 26 32 i0 _ 6 48 .i64 .i64 Tryd.underlying26 Tryd.underlying3 hi0 hz0 hz1 hz2 rfl ⟨g, 0, none⟩ i n (n + 1 - i) ((n : Int) + 1 - (i : Int)) (by omega) (xs.take (i * 6)) (by rw [List.length_take, hxl]; omega)
    (fun j u hu => by
      rw [List.getElem?_take] at hu
      split at hu
      · exact hcell j u hu
      · cases hu) (by omega) (by omega) (by simp [maxLen]; omega) (by omega) (by omega)
  rw [e1] at hap hC1
  have hXl : (xs.take (i * 6)).length = i * 6 := by rw [List.length_take, hxl]; omega
  have hDl : (xs.drop (i * 6)).length = (n - i) * 6 := by rw [List.length_drop, hxl]; omega
  have hcp1 := run_copy_sz (P := Tryd.prog) W1 26 26 3 32 i0 6 w.heap.size (i * 6) (n + 1 - i) (C - i) ⟨vb, 0, none⟩ 1 1 1 _ 32 news Tryd.underlying26 hi0 hz1 hrow (by simp only [Nat.min_def]; split <;> omega) (by omega)
    (fun j u hu => by rw [hbel.cell (by rw [Addr.add_lit]; exact hvb)]; exact hv j u hu) (by simp [hXl, hZ]; omega) hn1
  obtain ⟨W2, hW2⟩ : ∃ W2, W2 = W1.setRow w.heap.size (splice (xs.take (i * 6) ++ Z) (i * 6) news).toArray := ⟨_, rfl⟩
  have hrow2 : W2.heap[w.heap.size]? = some (.cells (splice (xs.take (i * 6) ++ Z) (i * 6) news).toArray 32 (0, 0)) := by rw [hW2]; exact setRow_heap _ _ _ _ _ _ hrow
  have hbel2 : Below w.heap.size w W2 := by rw [hW2]; exact below_setRow hbel (Nat.le_refl _) _
  have hsp : (splice (xs.take (i * 6) ++ Z) (i * 6) news).length = i * 6 + Z.length := by rw [length_splice _ _ _ (by simp [hXl, hZ]; omega)]; simp [hXl]
  have hcp2 : ∀ W : World, W.heap = W2.heap → ∀ ty dc, (Builtin.copy_ #[26, 26] ty #[.slice (some ⟨w.heap.size, (i + 1) * 6, none⟩) (n - i) dc, .slice (some ⟨g, i * 6, none⟩) (n - i) (n - i)]).run Tryd.prog W = .ok (goInt (n - i : Nat)) (W.setRow w.heap.size (splice (splice (xs.take (i * 6) ++ Z) (i * 6) news) ((i + 1) * 6) (xs.drop (i * 6))).toArray) := fun W hW ty dc => by
    have := run_copy_sz (P := Tryd.prog) W 26 26 ty 32 i0 6 w.heap.size ((i + 1) * 6) (n - i) dc ⟨g, i * 6, none⟩ (n - i) (n - i) (n - i) (splice (xs.take (i * 6) ++ Z) (i * 6) news).toArray 32 (xs.drop (i * 6)) Tryd.underlying26 hi0 hz1 (by rw [hW]; exact hrow2) (by simp only [Nat.min_def]; split <;> omega) hDl
      (fun j u hu => by
        have h1 := hcell (i * 6 + j) u (by rwa [List.getElem?_drop] at hu)
        rw [Addr.add_lit] at h1 ⊢
        rw [World.cell?_of_block (w := W2) (by rw [hW]), hbel2.cell (by exact hgl)]
        simpa using h1) (by simp [hsp, hDl, hZ]; omega) (fun u hu => hx1 u (List.mem_of_mem_drop hu))
    simpa using this
  rw [← hW2] at hcp1
  have HF := Lib.hid hrow2
  have HAP := Lib.hid hap
  have H1 := Lib.hid hcp1
  have H2 := Lib.hid hcp2
  have HXl := Lib.hid hXl
  have HDl := Lib.hid hDl
  have HZ := Lib.hid hZ
  have HN := Lib.hid hnl
  have HB := Lib.hid hbel2
  have hne : ¬ ((i : Int) = (n : Int)) := by omega
  have hne2 : ¬ (n = i) := by omega
  have hne3 : ¬ (C = i) := by omega
  have hne4 : ¬ (C = i + 1) := by omega
  have hsz2 : w.heap.size < W2.heap.size := by rw [hW2, size_setRow]; exact hsz1
  unfold maxLen at hC2
  clear hown hv hcell hxl hrow hrow2 hap hcp1 hcp2 hXl hDl hZ hsp hW2 e1 hnl hbel hbel2
  go_enter Tryd.func43, Tryd.ntmps43
  have h1 := H1.out
  go_wp2_with (at_builtin; refine Lib.wpList_append_run _ rfl _ _ 26 3 rfl _ _ rfl rfl _ _ HAP.out ?_)
  clear h1
  have h2 := H2.out W2.drew rfl
  go_region
  go_wp2_with fail
  go_ret
  have hXl := HXl.out
  have hDl := HDl.out
  have hN := HN.out
  have hZ := HZ.out
  have hlst := list_ins (xs.take (i * 6)) news (xs.drop (i * 6)) Z
  rw [hXl, hN, show i * 6 + 6 = (i + 1) * 6 by omega] at hlst
  rw [hlst]
  have hlen : (xs.take (i * 6) ++ news ++ xs.drop (i * 6)).length = (n + 1) * 6 := by simp only [List.length_append, hXl, hDl, hN]; omega
  have hbl : Below w.heap.size w (W2.drew.setRow w.heap.size ((xs.take (i * 6) ++ news ++ xs.drop (i * 6)) ++ Z.drop (6 + (xs.drop (i * 6)).length)).toArray) := below_setRow HB.out.drew (Nat.le_refl _) _
  refine ⟨.slice (some ⟨w.heap.size, 0, none⟩) (n + 1) C, rfl, ⟨hlen, .inr ⟨w.heap.size, C, _, rfl, hb, setRow_heap _ _ _ _ _ _ (show W2.drew.heap[w.heap.size]? = _ from HF.out), hC1, by unfold maxLen; exact hC2, ?_, ?_⟩⟩, ?_⟩
  · simp only [List.size_toArray, List.length_append, List.length_drop, hXl, hN, hZ]
    have := hDl
    rw [List.length_drop] at this
    omega
  · rw [← hlen, List.toList_toArray, List.take_left]
  · exact ⟨hbl.os, hbl.tape, hbl.output, hbl.size, fun k hk _ => hbl.block k hk⟩
end Go.Proofs.YtdcgminjamofmaaDoor
