/- Plain laws of scan: where the records and the damaged blocks stand. -/
import Derived.Test.YtdcgminjamofmaaDoorDamage
namespace Go.Proofs.YtdcgminjamofmaaDoor
open Go.RowKit

theorem scan_more (E : List Int) (k : Nat) : ∀ d, (∃ t, scanG E (k + d) = scanG E k ++ t) ∧ ∃ t, scanD E (k + d) = scanD E k ++ t := by
  intro d
  induction d with
  | zero => exact ⟨⟨[], by simp⟩, ⟨[], by simp⟩⟩
  | succ d ih =>
    obtain ⟨⟨t, ht⟩, ⟨u, hu⟩⟩ := ih
    cases h : readOk (at12 E (k + d))
    · have hb := scan_bad h
      exact ⟨⟨t, by rw [← Nat.add_assoc, hb.1, ht]⟩, ⟨u ++ [((k + d : Nat) : Int)], by rw [← Nat.add_assoc, hb.2, hu, List.append_assoc]⟩⟩
    · have hg := scan_good h
      exact ⟨⟨t ++ [readRec (at12 E (k + d))], by rw [← Nat.add_assoc, hg.1, ht, List.append_assoc]⟩, ⟨u, by rw [← Nat.add_assoc, hg.2, hu]⟩⟩
theorem scanG_get {E : List Int} {k m : Nat} (hk : k < m) (h : readOk (at12 E k) = true) : (scanG E m)[(scanG E k).length]? = some (readRec (at12 E k)) := by
  obtain ⟨⟨t, ht⟩, _⟩ := scan_more E (k + 1) (m - (k + 1))
  rw [show k + 1 + (m - (k + 1)) = m by omega, (scan_good h).1] at ht
  rw [ht, List.append_assoc, List.getElem?_append_right (Nat.le_refl _), Nat.sub_self]
  rfl
theorem scanD_get {E : List Int} {k m : Nat} (hk : k < m) (h : readOk (at12 E k) = false) : (scanD E m)[(scanD E k).length]? = some (k : Int) := by
  obtain ⟨_, ⟨t, ht⟩⟩ := scan_more E (k + 1) (m - (k + 1))
  rw [show k + 1 + (m - (k + 1)) = m by omega, (scan_bad h).2] at ht
  rw [ht, List.append_assoc, List.getElem?_append_right (Nat.le_refl _), Nat.sub_self]
  rfl
theorem readOk12 (b0 b1 b2 b3 b4 b5 b6 b7 b8 b9 b10 b11 : Int) : readOk [b0, b1, b2, b3, b4, b5, b6, b7, b8, b9, b10, b11] =
    ((b10 * 256 + b11 == jsum [b0, b1, b2, b3, b4, b5, b6, b7, b8, b9]) && okRec (((b3 * 256 + b4) * 256 + b5) * 256 + b6) b0 (b1 * 256 + b2) ((b7 * 256 + b8) * 256 + b9)) ∧
    readRec [b0, b1, b2, b3, b4, b5, b6, b7, b8, b9, b10, b11] = ⟨((b3 * 256 + b4) * 256 + b5) * 256 + b6, b0, b1 * 256 + b2, (b7 * 256 + b8) * 256 + b9⟩ := by
  have e1 : be [b3, b4, b5, b6] = ((b3 * 256 + b4) * 256 + b5) * 256 + b6 := by simp [be]
  have e2 : be [b1, b2] = b1 * 256 + b2 := by simp [be]
  have e3 : be [b7, b8, b9] = (b7 * 256 + b8) * 256 + b9 := by simp [be]
  have e4 : be [b10, b11] = b10 * 256 + b11 := by simp [be]
  have hr : readRec [b0, b1, b2, b3, b4, b5, b6, b7, b8, b9, b10, b11] = ⟨((b3 * 256 + b4) * 256 + b5) * 256 + b6, b0, b1 * 256 + b2, (b7 * 256 + b8) * 256 + b9⟩ := by
    show (⟨be [b3, b4, b5, b6], b0, be [b1, b2], be [b7, b8, b9]⟩ : Rec) = _
    rw [e1, e2, e3]
  refine ⟨?_, hr⟩
  unfold readOk
  rw [hr]
  show ((be [b10, b11] == jsum [b0, b1, b2, b3, b4, b5, b6, b7, b8, b9]) && _) = _
  rw [e4]
  rfl
/-- The law's test of a block. -/
theorem good_eq {X J t k j v : Int} (ht : 0 ≤ t) (hj : j ≤ 65535) (hv : 0 ≤ v ∧ v ≤ 16777215) : ((X == J) && okRec t k j v) = ((J == X) && decide (1 ≤ k) && decide (k ≤ 6) && decide (0 < j) && decide (t ≤ 1000000000) && (k != 6 || v == 0)) := by
  have e : (X == J) = (J == X) := Bool.beq_comm
  rw [e]
  unfold okRec
  have h1 : decide (0 ≤ t) = true := by simpa using ht
  have h2 : decide (j ≤ 65535) = true := by simpa using hj
  have h3 : decide (0 ≤ v) = true := by simpa using hv.1
  have h4 : decide (v ≤ 16777215) = true := by simpa using hv.2
  have h5 : decide (1 ≤ j) = decide (0 < j) := by congr 1
  rw [h1, h2, h3, h4, h5]
  generalize (J == X) = a
  generalize decide (1 ≤ k) = b
  generalize decide (k ≤ 6) = c
  generalize decide (0 < j) = d
  generalize decide (t ≤ 1000000000) = e
  generalize (k != 6 || v == 0) = f
  revert a b c d e f
  decide
theorem rd_num {w : World} {A : Option Addr} {l : List Int} (h : Rd w A 1 l.length (nums l)) {i : Nat} {x : Int} (hi : l[i]? = some x) : ∃ b o, A = some ⟨b, o, none⟩ ∧ b < w.heap.size ∧ w.cell? ⟨b, o + i, none⟩ = some (.int .i64 x) := by
  have hl := (List.getElem?_eq_some_iff.1 hi).1
  obtain ⟨b, o, e, hb, hc⟩ := h.2 (by omega)
  refine ⟨b, o, e, hb, hc i _ ?_⟩
  unfold nums
  rw [List.getElem?_map, hi]
  rfl
end Go.Proofs.YtdcgminjamofmaaDoor
