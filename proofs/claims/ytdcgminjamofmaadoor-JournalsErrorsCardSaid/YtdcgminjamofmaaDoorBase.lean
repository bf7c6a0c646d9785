/- Base: words for memory of my own (a slice that reads as a list of cells; a call that leaves old memory alone), used by all walks. No condition. -/
import Derived.WalkKit
import Derived.WalkSpells
import Derived.WalkLawsBesides
import Derived.Lib.Hide
import Derived.Maps.AppendAt
namespace Go.Proofs.YtdcgminjamofmaaDoor
open Go.RowKit

/-- The call returns v, and all memory that was there is as it was. -/
def RetBelow (v : Value) (w : World) (e : Ending) (w' : World) : Prop := e = .returned v ∧ Below w.heap.size w w'

theorem ret_int {k : IntKind} {a b : Int} (h : a = b) : Ending.returned (.int k a) = .returned (.int k b) := by rw [h]
theorem val_int {k : IntKind} {a b : Int} (h : a = b) : Value.int k a = Value.int k b := by rw [h]

/-- The slice value at A, of n elements of sz cells each, reads as the cells xs. -/
def Rd (w : World) (A : Option Addr) (sz n : Nat) (xs : List Value) : Prop :=
  xs.length = n * sz ∧ (0 < n → ∃ b o, A = some ⟨b, o, none⟩ ∧ b < w.heap.size ∧ ∀ j u, xs[j]? = some u → w.cell? ⟨b, o + j, none⟩ = some u)

section
variable {w w' : World} {A : Option Addr} {sz n : Nat} {xs : List Value}
theorem Rd.nil : Rd w A sz 0 [] := ⟨by simp, fun h => absurd h (by omega)⟩
theorem Rd.keep (h : Rd w A sz n xs) (hs : w.heap.size ≤ w'.heap.size) (hk : ∀ b o, b < w.heap.size → w'.cell? ⟨b, o, none⟩ = w.cell? ⟨b, o, none⟩) : Rd w' A sz n xs :=
  ⟨h.1, fun hn => by
    obtain ⟨b, o, e, hb, hc⟩ := h.2 hn
    exact ⟨b, o, e, by omega, fun j u hu => (hk _ _ hb).trans (hc j u hu)⟩⟩
theorem Rd.below (h : Rd w A sz n xs) (hb : Below w.heap.size w w') : Rd w' A sz n xs := h.keep hb.size fun b o hl => hb.cell (p := ⟨b, o, none⟩) hl
theorem Rd.drew (h : Rd w A sz n xs) : Rd w.drew A sz n xs := h
theorem Rd.alloc (h : Rd w A sz n xs) (o : Obj) : Rd (w.alloc o) A sz n xs := h.keep (by simp) fun b o' hl => World.cell?_alloc_lt w o ⟨b, o', none⟩ hl
/-- Its first k elements. -/
theorem Rd.take (h : Rd w A sz n xs) {k : Nat} (hk : k ≤ n) : Rd w A sz k (xs.take (k * sz)) := by
  have hm : k * sz ≤ n * sz := Nat.mul_le_mul_right _ hk
  refine ⟨by rw [List.length_take, h.1]; omega, fun hn => ?_⟩
  obtain ⟨b, o, e, hb, hc⟩ := h.2 (by omega)
  refine ⟨b, o, e, hb, fun j u hu => hc j u ?_⟩
  rw [List.getElem?_take] at hu
  split at hu
  · exact hu
  · cases hu
theorem Rd.of_own {base : Nat} {e : TypeId} {c : Nat} (h : w.ownsRow base e sz (.slice A n c) n xs) : Rd w A sz n xs := by
  refine ⟨h.1, fun hn => ?_⟩
  rcases h.2 with ⟨_, h0⟩ | ⟨g, cap, cur, hv, _, hg, _, _, _, ht⟩
  · omega
  · have hA : A = some ⟨g, 0, none⟩ := by injection hv
    refine ⟨g, 0, hA, (Array.getElem?_eq_some_iff.1 hg).1, fun j u hu => ?_⟩
    rw [Nat.zero_add, cell_of_row w g j cur e (0, 0) hg]
    rw [← ht, List.getElem?_take] at hu
    split at hu
    · simpa using hu
    · cases hu
end

/-- The call returns a slice in new memory that holds the cells xs, and leaves old memory alone. -/
def OwnRet (e : TypeId) (sz n : Nat) (xs : List Value) (w : World) (en : Ending) (w' : World) : Prop :=
  ∃ v, en = .returned v ∧ w'.ownsRow w.heap.size e sz v n xs ∧ Below w.heap.size w w'

/-- A block that was just made reads as its cells. -/
theorem rd_new {w : World} {e : TypeId} {b : Nat} (xs : List Value) (n sz : Nat) (h : xs.length = n * sz) (hb : w.heap.size = b) : Rd (w.alloc (.cells xs.toArray e)) (some ⟨b, 0, none⟩) sz n xs := by
  subst hb
  exact ⟨h, fun _ => ⟨_, 0, rfl, by simp, fun j u hu => by
    rw [Nat.zero_add, cell_of_row _ _ j xs.toArray e (0, 0) (heap_alloc_new w _)]; simpa using hu⟩⟩
theorem own_new {w : World} {b : Nat} (base : Nat) {e : TypeId} (sz n : Nat) (xs : List Value) (hb : base ≤ w.heap.size) (hm : n ≤ maxLen) (h : xs.length = n * sz) (hs : w.heap.size = b) :
    (w.alloc (.cells xs.toArray e)).ownsRow base e sz (.slice (some ⟨b, 0, none⟩) n n) n xs := by
  subst hs
  exact ⟨h, .inr ⟨w.heap.size, n, xs.toArray, rfl, hb, heap_alloc_new w _, Nat.le_refl _, hm, by simpa using h, by rw [← h]; simp⟩⟩

theorem cells_new (w : World) (xs : List Value) (e : TypeId) : ∀ j u, xs[j]? = some u → (w.alloc (.cells xs.toArray e)).cell? ((⟨w.heap.size, 0, none⟩ : Addr).add j) = some u := by
  intro j u hu
  have : (⟨w.heap.size, 0, none⟩ : Addr).add j = ⟨w.heap.size, j, none⟩ := by unfold Addr.add; split <;> simp_all
  rw [this, cell_of_row _ _ j xs.toArray e (0, 0) (heap_alloc_new w _)]; simpa using hu

theorem below_drewN {B : Nat} {a w : World} (h : Below B a w) (n : Nat) : Below B a (w.drewN n) := ⟨h.os, h.tape, h.output, h.size, h.block⟩
theorem below_cell {W w1 : World} (hb : Below W.heap.size W w1) {b o : Nat} {v : Value} (h : W.cell? ⟨b, o, none⟩ = some v) : w1.cell? ⟨b, o, none⟩ = some v := by
  rw [hb.cell (p := ⟨b, o, none⟩) (World.block_lt_of_cell? W ⟨b, o, none⟩ h)]; exact h

/-- The four cells of a box that was just made, behind a call that leaves old memory alone. -/
theorem box4 {w w2 : World} {a0 a1 a2 a3 : Value} {e : TypeId} (hb : Below (w.alloc (.cells #[a0, a1, a2, a3] e)).heap.size (w.alloc (.cells #[a0, a1, a2, a3] e)) w2) :
    w2.cell? ⟨w.heap.size, 0, none⟩ = some a0 ∧ w2.cell? ⟨w.heap.size, 1, none⟩ = some a1 ∧ w2.cell? ⟨w.heap.size, 2, none⟩ = some a2 ∧ w2.cell? ⟨w.heap.size, 3, none⟩ = some a3 := by
  have h : ∀ j u, #[a0, a1, a2, a3][j]? = some u → w2.cell? ⟨w.heap.size, j, none⟩ = some u := by
    intro j u hu
    rw [hb.cell (p := ⟨w.heap.size, j, none⟩) (by simp), cell_of_row _ _ j _ e (0, 0) (heap_alloc_new w _)]; exact hu
  exact ⟨h 0 _ rfl, h 1 _ rfl, h 2 _ rfl, h 3 _ rfl⟩

theorem list_le_len {α β : Type} {f : α → List β} {l : List α} (k : Nat) : ((l.take k).flatMap f) ++ ((l.drop k).flatMap f) = l.flatMap f := by
  rw [← List.flatMap_append, List.take_append_drop]
end Go.Proofs.YtdcgminjamofmaaDoor
