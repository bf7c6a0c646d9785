/- Records as plain data, and how a slice of them reads. -/
import Derived.Test.YtdcgminjamofmaaDoorBlk
namespace Go.Proofs.YtdcgminjamofmaaDoor
open Go.RowKit

structure Rec where
  t : Int
  k : Int
  j : Int
  v : Int
def Rec.cells (r : Rec) : List Value := [.int .i64 r.t, .int .u8 r.k, .int .i64 r.j, .int .i64 r.v]
def Rec.ok (r : Rec) : Bool := okRec r.t r.k r.j r.v
def Rec.blk (r : Rec) : List Int := Proofs.YtdcgminjamofmaaDoor.blk r.t r.k r.j r.v
def recs (l : List Rec) : List Value := l.flatMap Rec.cells
/-- The numbers fit Go's types. -/
def Rec.fit (r : Rec) : Prop := (-9223372036854775808 ≤ r.t ∧ r.t ≤ 9223372036854775807) ∧ (0 ≤ r.k ∧ r.k ≤ 255) ∧ (-9223372036854775808 ≤ r.j ∧ r.j ≤ 9223372036854775807) ∧ (-9223372036854775808 ≤ r.v ∧ r.v ≤ 9223372036854775807)
def encs (l : List Rec) : List Int := l.flatMap Rec.blk

/-- In a list of pieces of one length: the cell at i * sz + f. -/
theorem flat_at {α β : Type} (g : α → List β) (sz : Nat) (hg : ∀ a, (g a).length = sz) (l : List α) (i f : Nat) (hi : i < l.length) (hf : f < sz) :
    (l.flatMap g)[i * sz + f]? = (g l[i])[f]? := by
  induction l generalizing i with
  | nil => simp at hi
  | cons a r ih =>
    cases i with
    | zero => rw [List.flatMap_cons, List.getElem?_append_left (by rw [hg]; omega)]; simp
    | succ i =>
      rw [List.flatMap_cons, List.getElem?_append_right (by rw [hg, Nat.succ_mul]; omega), hg]
      have : (i + 1) * sz + f - sz = i * sz + f := by rw [Nat.succ_mul]; omega
      rw [this]
      simpa using ih i (by simpa using hi)
theorem flat_len {α β : Type} (g : α → List β) (sz : Nat) (hg : ∀ a, (g a).length = sz) (l : List α) : (l.flatMap g).length = l.length * sz := by
  induction l with
  | nil => simp
  | cons a r ih => rw [List.flatMap_cons, List.length_append, ih, hg, List.length_cons, Nat.succ_mul]; omega
theorem flat_take {α β : Type} (g : α → List β) (sz : Nat) (hg : ∀ a, (g a).length = sz) (l : List α) (k : Nat) : (l.flatMap g).take (k * sz) = (l.take k).flatMap g := by
  induction l generalizing k with
  | nil => simp
  | cons a r ih =>
    cases k with
    | zero => simp
    | succ k =>
      rw [List.flatMap_cons, List.take_succ_cons, List.flatMap_cons, List.take_append, hg]
      have e1 : (k + 1) * sz - sz = k * sz := by rw [Nat.succ_mul]; omega
      have e2 : List.take ((k + 1) * sz) (g a) = g a := List.take_of_length_le (by rw [hg, Nat.succ_mul]; omega)
      rw [e1, e2, ih]
theorem flat_drop {α β : Type} (g : α → List β) (sz : Nat) (hg : ∀ a, (g a).length = sz) (l : List α) (k : Nat) : (l.flatMap g).drop (k * sz) = (l.drop k).flatMap g := by
  induction l generalizing k with
  | nil => simp
  | cons a r ih =>
    cases k with
    | zero => simp
    | succ k =>
      rw [List.flatMap_cons, List.drop_succ_cons, List.drop_append, hg]
      have e1 : (k + 1) * sz - sz = k * sz := by rw [Nat.succ_mul]; omega
      have e2 : List.drop ((k + 1) * sz) (g a) = [] := List.drop_of_length_le (by rw [hg, Nat.succ_mul]; omega)
      rw [e1, e2, ih]; rfl
theorem rec_len (r : Rec) : r.cells.length = 4 := rfl
theorem recs_len (l : List Rec) : (recs l).length = l.length * 4 := flat_len _ 4 rec_len l
theorem blk_len (r : Rec) : r.blk.length = 12 := rfl
theorem encs_len (l : List Rec) : (encs l).length = l.length * 12 := flat_len _ 12 blk_len l

theorem rd_rec {w : World} {A : Option Addr} {l : List Rec} (h : Rd w A 4 l.length (recs l)) (i : Nat) (hi : i < l.length) :
    ∃ b o, A = some ⟨b, o, none⟩ ∧ b < w.heap.size ∧ w.cell? ⟨b, o + i * 4, none⟩ = some (.int .i64 l[i].t) ∧ w.cell? ⟨b, o + i * 4 + 1, none⟩ = some (.int .u8 l[i].k) ∧
      w.cell? ⟨b, o + i * 4 + 2, none⟩ = some (.int .i64 l[i].j) ∧ w.cell? ⟨b, o + i * 4 + 3, none⟩ = some (.int .i64 l[i].v) := by
  obtain ⟨b, o, e, hb, hc⟩ := h.2 (by omega)
  refine ⟨b, o, e, hb, ?_, ?_, ?_, ?_⟩
  · exact hc (i * 4 + 0) _ ((flat_at _ 4 rec_len l i 0 hi (by omega)).trans rfl)
  · exact hc (i * 4 + 1) _ ((flat_at _ 4 rec_len l i 1 hi (by omega)).trans rfl)
  · exact hc (i * 4 + 2) _ ((flat_at _ 4 rec_len l i 2 hi (by omega)).trans rfl)
  · exact hc (i * 4 + 3) _ ((flat_at _ 4 rec_len l i 3 hi (by omega)).trans rfl)
end Go.Proofs.YtdcgminjamofmaaDoor
