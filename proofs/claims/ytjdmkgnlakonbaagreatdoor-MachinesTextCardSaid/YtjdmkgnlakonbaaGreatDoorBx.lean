/- Blocks of a walk's own, and what stays of them. No program is named; no condition. -/
import Derived.Test.YtjdmkgnlakonbaaGreatDoorG
import Derived.Test.YtjdmkgnlakonbaaGreatDoorRows
import Derived.Deep.MidRow
import Derived.Deep.Upon
namespace Go.Proofs.YtjdmkgnlakonbaaGreatDoor
open Go.RowKit

/-- The blocks l (place, cells, type), all made since w, hold in wr what is said; old memory is as it was. -/
structure Bx (w : World) (l : List (Nat × Array Value × TypeId)) (wr : World) : Prop where
  below : Below w.heap.size w wr
  blk : ∀ (i g : Nat) (cs : Array Value) (t : TypeId), l[i]? = some (g, cs, t) → wr.heap[g]? = some (Obj.cells cs t (0, 0))
  lo : ∀ (i g : Nat) (cs : Array Value) (t : TypeId), l[i]? = some (g, cs, t) → w.heap.size ≤ g
  inj : ∀ (i j g : Nat) (cs : Array Value) (t : TypeId) (ds : Array Value) (u : TypeId), l[i]? = some (g, cs, t) → l[j]? = some (g, ds, u) → i = j

section
variable {w wr w2 : World} {l : List (Nat × Array Value × TypeId)}
theorem Bx.start (w : World) : Bx w [] w := ⟨Below.refl _ _, by simp, by simp, by simp⟩
theorem Bx.lt (h : Bx w l wr) (i : Nat) {g : Nat} {cs : Array Value} {t : TypeId} (hi : l[i]? = some (g, cs, t)) : g < wr.heap.size := (Array.getElem?_eq_some_iff.1 (h.blk i g cs t hi)).1
theorem Bx.call (h : Bx w l wr) (hb : Below wr.heap.size wr w2) : Bx w l w2 :=
  ⟨h.below.trans (hb.mono h.below.size), fun i g cs t hi => kept hb (h.blk i g cs t hi) (h.lt i hi), h.lo, h.inj⟩
theorem Bx.calld (h : Bx w l wr) (hb : Below wr.drew.heap.size wr.drew w2) : Bx w l w2 := h.call (undrew hb)
theorem Bx.drew (h : Bx w l wr) : Bx w l wr.drew := ⟨h.below.drew, h.blk, h.lo, h.inj⟩
theorem Bx.drewN (h : Bx w l wr) (n : Nat) : Bx w l (wr.drewN n) := ⟨below_drewN h.below n, h.blk, h.lo, h.inj⟩
theorem Bx.other (h : Bx w l wr) (o : Obj) : Bx w l (wr.alloc o) := h.call ((Below.refl _ _).alloc (Nat.le_refl _) o)
/-- The last one in the list is the one that was made first. -/
theorem Bx.new (h : Bx w l wr) (cs : Array Value) (t : TypeId) {N : Nat} (hN : wr.heap.size = N) : Bx w (l ++ [(N, cs, t)]) (wr.alloc (.cells cs t)) := by
  subst hN
  have h0 := h.other (Obj.cells cs t)
  have hk : ∀ (i g : Nat) (ds : Array Value) (u : TypeId), (l ++ [(wr.heap.size, cs, t)])[i]? = some (g, ds, u) → (i < l.length ∧ l[i]? = some (g, ds, u)) ∨ (i = l.length ∧ g = wr.heap.size ∧ ds = cs ∧ u = t) := by
    intro i g ds u hi
    by_cases hl : i < l.length
    · rw [List.getElem?_append_left hl] at hi; exact .inl ⟨hl, hi⟩
    · have hi' : i < (l ++ [(wr.heap.size, cs, t)]).length := (List.getElem?_eq_some_iff.1 hi).1
      simp at hi'
      have : i = l.length := by omega
      subst this
      rw [List.getElem?_append_right (Nat.le_refl _), Nat.sub_self] at hi
      simp at hi
      exact .inr ⟨rfl, hi.1.symm, hi.2.1.symm, hi.2.2.symm⟩
  refine ⟨h0.below, ?_, ?_, ?_⟩
  · intro i g ds u hi
    rcases hk i g ds u hi with ⟨_, h1⟩ | ⟨_, rfl, rfl, rfl⟩
    · exact h0.blk i g ds u h1
    · exact heap_alloc_new wr _
  · intro i g ds u hi
    rcases hk i g ds u hi with ⟨_, h1⟩ | ⟨_, rfl, rfl, rfl⟩
    · exact h.lo i g ds u h1
    · exact h.below.size
  · intro i j g ds u es v hi hj
    rcases hk i g ds u hi with ⟨_, h1⟩ | ⟨h1, rfl, _, _⟩
    · rcases hk j g es v hj with ⟨_, h2⟩ | ⟨_, rfl, _, _⟩
      · exact h.inj i j g ds u es v h1 h2
      · exact absurd (h.lt i h1) (by omega)
    · rcases hk j _ es v hj with ⟨_, h2⟩ | ⟨h2, _, _, _⟩
      · exact absurd (h.lt j h2) (by omega)
      · omega
theorem heap_setCell_at {wr : World} {g j : Nat} {cs : Array Value} {t : TypeId} (v : Value) (hg : wr.heap[g]? = some (Obj.cells cs t (0, 0))) : (wr.setCell ⟨g, j, none⟩ v).heap[g]? = some (.cells (cs.setIfInBounds j v) t (0, 0)) := by
  simp [World.setCell, Array.getElem?_modify, hg]
theorem Bx.set (h : Bx w l wr) (i j : Nat) {g : Nat} {cs : Array Value} {t : TypeId} (hi : l[i]? = some (g, cs, t)) (v : Value) :
    Bx w (l.set i (g, cs.setIfInBounds j v, t)) (wr.setCell ⟨g, j, none⟩ v) := by
  have hil : i < l.length := (List.getElem?_eq_some_iff.1 hi).1
  have hk : ∀ (k g' : Nat) (ds : Array Value) (u : TypeId), (l.set i (g, cs.setIfInBounds j v, t))[k]? = some (g', ds, u) → (k ≠ i ∧ l[k]? = some (g', ds, u)) ∨ (k = i ∧ g' = g ∧ ds = cs.setIfInBounds j v ∧ u = t) := by
    intro k g' ds u hk
    by_cases hki : k = i
    · subst hki
      rw [List.getElem?_set_self hil] at hk
      simp at hk
      exact .inr ⟨rfl, hk.1.symm, hk.2.1.symm, hk.2.2.symm⟩
    · rw [List.getElem?_set_ne (Ne.symm hki)] at hk; exact .inl ⟨hki, hk⟩
  refine ⟨h.below.setCell (h.lo i g cs t hi) v, ?_, ?_, ?_⟩
  · intro k g' ds u hk'
    rcases hk k g' ds u hk' with ⟨hne, h1⟩ | ⟨_, rfl, rfl, rfl⟩
    · have hgg : g' ≠ g := fun e => by subst e; exact hne (h.inj k i _ _ _ _ _ h1 hi)
      exact (Below.heap_setCell wr ⟨g, j, none⟩ v g' hgg).trans (h.blk k g' ds u h1)
    · exact heap_setCell_at v (h.blk i _ cs _ hi)
  · intro k g' ds u hk'
    rcases hk k g' ds u hk' with ⟨_, h1⟩ | ⟨_, rfl, _, _⟩
    · exact h.lo k g' ds u h1
    · exact h.lo i _ cs t hi
  · intro a b g' ds u es v' ha hb
    rcases hk a g' ds u ha with ⟨h0, h1⟩ | ⟨rfl, rfl, _, _⟩
    · rcases hk b g' es v' hb with ⟨_, h2⟩ | ⟨rfl, rfl, _, _⟩
      · exact h.inj a b g' ds u es v' h1 h2
      · exact h.inj a b _ ds u cs t h1 hi
    · rcases hk b _ es v' hb with ⟨_, h2⟩ | ⟨rfl, _, _, _⟩
      · exact h.inj a b _ cs t es v' hi h2
      · rfl
end

theorem setCells_splice {g : Nat} {t : TypeId} : ∀ (vs : List Value) (o : Nat) (w : World) (cs : Array Value), w.heap[g]? = some (Obj.cells cs t (0, 0)) → o + vs.length ≤ cs.size →
    (w.setCells g o vs).heap[g]? = some (Obj.cells (cs.toList.take o ++ vs ++ cs.toList.drop (o + vs.length)).toArray t (0, 0))
  | [], o, w, cs, hg, _ => by simp [World.setCells, hg]
  | v :: r, o, w, cs, hg, hl => by
    simp only [List.length_cons] at hl
    rw [World.setCells, setCells_splice r (o + 1) _ _ (heap_setCell_at v hg) (by simp; omega)]
    congr 2
    apply Array.ext'
    simp only [Array.toList_setIfInBounds, List.length_cons]
    have hs : cs.toList.set o v = cs.toList.take o ++ v :: cs.toList.drop (o + 1) := by
      rw [List.set_eq_take_append_cons_drop, if_pos (by simp; omega)]
    have e1 : (cs.toList.set o v).take (o + 1) = cs.toList.take o ++ [v] := by
      rw [hs, List.take_append, List.length_take, Nat.min_eq_left (by simp; omega), List.take_take, Nat.min_eq_right (by omega), show o + 1 - o = 1 by omega]
      rfl
    have e2 : (cs.toList.set o v).drop (o + 1 + r.length) = cs.toList.drop (o + (r.length + 1)) := by
      rw [List.drop_set_of_lt (by omega)]; congr 1; omega
    rw [e1, e2]; simp
theorem setCells_all {g : Nat} {t : TypeId} {w : World} {cs : Array Value} (hg : w.heap[g]? = some (Obj.cells cs t (0, 0))) (vs : List Value) (hl : vs.length = cs.size) :
    (w.setCells g 0 vs).heap[g]? = some (Obj.cells vs.toArray t (0, 0)) := by
  rw [setCells_splice vs 0 w cs hg (by omega)]
  have : List.drop (0 + vs.length) cs.toList = [] := List.drop_of_length_le (by simp; omega)
  rw [this]; simp
theorem below_setCells {B : Nat} {a w : World} (h : Below B a w) {g : Nat} (hg : B ≤ g) : ∀ (vs : List Value) (o : Nat), Below B a (w.setCells g o vs) := by
  intro vs
  induction vs generalizing w with
  | nil => intro o; exact h
  | cons v r ih => intro o; exact ih (h.setCell (p := ⟨g, o, none⟩) hg v) (o + 1)
section
variable {w wr : World} {l : List (Nat × Array Value × TypeId)}
theorem Bx.range (h : Bx w l wr) (i : Nat) {g : Nat} {cs : Array Value} {t : TypeId} (hi : l[i]? = some (g, cs, t)) : wr.rangeAt g 0 cs.toList := fun j v hj => by
  rw [Nat.zero_add, cell_of_row wr g j cs t (0, 0) (h.blk i g cs t hi)]; simpa using hj
theorem Bx.there (h : Bx w l wr) (i : Nat) {g : Nat} {cs : Array Value} {t : TypeId} (hi : l[i]? = some (g, cs, t)) : wr.there g 0 cs.size := fun j hj => by
  have hb := h.blk i g cs t hi
  rw [Nat.zero_add, cell_of_row wr g j cs t (0, 0) hb]
  exact ⟨by simp [hj], by simp [World.frozen?, hb]⟩
theorem Bx.setAll (h : Bx w l wr) (i : Nat) {g : Nat} {cs : Array Value} {t : TypeId} (hi : l[i]? = some (g, cs, t)) (vs : List Value) (hl : vs.length = cs.size) :
    Bx w (l.set i (g, vs.toArray, t)) (wr.setCells g 0 vs) := by
  have hil : i < l.length := (List.getElem?_eq_some_iff.1 hi).1
  have hk : ∀ (k g' : Nat) (ds : Array Value) (u : TypeId), (l.set i (g, vs.toArray, t))[k]? = some (g', ds, u) → (k ≠ i ∧ l[k]? = some (g', ds, u)) ∨ (k = i ∧ g' = g ∧ ds = vs.toArray ∧ u = t) := by
    intro k g' ds u hk
    by_cases hki : k = i
    · subst hki
      rw [List.getElem?_set_self hil] at hk
      simp at hk
      exact .inr ⟨rfl, hk.1.symm, hk.2.1.symm, hk.2.2.symm⟩
    · rw [List.getElem?_set_ne (Ne.symm hki)] at hk; exact .inl ⟨hki, hk⟩
  refine ⟨below_setCells h.below (h.lo i g cs t hi) vs 0, ?_, ?_, ?_⟩
  · intro k g' ds u hk'
    rcases hk k g' ds u hk' with ⟨hne, h1⟩ | ⟨_, rfl, rfl, rfl⟩
    · have hgg : g' ≠ g := fun e => by subst e; exact hne (h.inj k i _ _ _ _ _ h1 hi)
      exact (World.heap_setCells_other wr g 0 vs (h.lt k h1) hgg).trans (h.blk k g' ds u h1)
    · exact setCells_all (h.blk i _ cs _ hi) vs hl
  · intro k g' ds u hk'
    rcases hk k g' ds u hk' with ⟨_, h1⟩ | ⟨_, rfl, _, _⟩
    · exact h.lo k g' ds u h1
    · exact h.lo i _ cs t hi
  · intro a b g' ds u es v' ha hb
    rcases hk a g' ds u ha with ⟨h0, h1⟩ | ⟨rfl, rfl, _, _⟩
    · rcases hk b g' es v' hb with ⟨_, h2⟩ | ⟨rfl, rfl, _, _⟩
      · exact h.inj a b g' ds u es v' h1 h2
      · exact h.inj a b _ ds u cs t h1 hi
    · rcases hk b _ es v' hb with ⟨_, h2⟩ | ⟨rfl, _, _, _⟩
      · exact h.inj a b _ cs t es v' hi h2
      · rfl
end
/-- One result that lies in a cell, an aggregate. -/
theorem res_cell {P : Program} {fn : Func} {s : Nat} {t : TypeId} (hr : fn.results = #[.cell s t]) {tmps : Array Value} {w : World} {g : Nat} {cs : Array Value} {d : TypeDesc} (hs : tmps.getD s undef = .pointer (some ⟨g, 0, none⟩))
    (hc : w.rangeAt g 0 cs.toList) (hu : P.underlying t = some d) (hd : d.isRow = true) (hi : (P.info? t).map (·.size) = some cs.size) : (results fn tmps).run P w = .ok (.agg cs) w := by
  have h := run_loadVar_mid (P := P) w g 0 t cs.toList d hc hu hd (by simpa using hi)
  have e : tmps[s]?.getD undef = .pointer (some ⟨g, 0, none⟩) := by rw [← hs]; simp
  simp [results, hr, e, asAddr, h]
/-- Two results, the first in a cell, an aggregate. -/
theorem res_cell_tmp {P : Program} {fn : Func} {s u : Nat} {t : TypeId} (hr : fn.results = #[.cell s t, .tmp u]) {tmps : Array Value} {w : World} {g : Nat} {cs : Array Value} {d : TypeDesc} (hs : tmps.getD s undef = .pointer (some ⟨g, 0, none⟩))
    (hc : w.rangeAt g 0 cs.toList) (hu : P.underlying t = some d) (hd : d.isRow = true) (hi : (P.info? t).map (·.size) = some cs.size) : (results fn tmps).run P w = .ok (.tuple #[.agg cs, tmps.getD u undef]) w := by
  have h := run_loadVar_mid (P := P) w g 0 t cs.toList d hc hu hd (by simpa using hi)
  have e : tmps[s]?.getD undef = .pointer (some ⟨g, 0, none⟩) := by rw [← hs]; simp
  simp [results, hr, e, asAddr, h]
end Go.Proofs.YtjdmkgnlakonbaaGreatDoor
