/- What places.relative needs: its queue of ids, and laws of what it computes. -/
import Derived.Test.YtjdmkgnlakonbaaGreatDoorAcr
namespace Go.Proofs.YtjdmkgnlakonbaaGreatDoor
open Go.RowKit

theorem MpOk.setCell {κ : Type} {K : κ → Value} {w : World} {M : Nat} {l : List (κ × Value)} (h : MpOk K w M l) (p : Addr) (v : Value) : MpOk K (w.setCell p v) M l := by
  obtain ⟨es, cl, h1, h2⟩ := h
  refine ⟨es, cl, ?_, h2⟩
  unfold World.setCell
  simp only [Array.getElem?_modify]
  split
  · rename_i e; subst e; rw [h1]; rfl
  · exact h1
theorem MpOk.drew {κ : Type} {K : κ → Value} {w : World} {M : Nat} {l : List (κ × Value)} (h : MpOk K w M l) : MpOk K w.drew M l := h
/-- A store into a block of one's own that is not listed. -/
theorem Bx.setOther {w wr : World} {l : List (Nat × Array Value × TypeId)} (h : Bx w l wr) {g : Nat} (hg : w.heap.size ≤ g) (hne : ∀ (i : Nat) (x : Nat × Array Value × TypeId), l[i]? = some x → x.1 ≠ g) (j : Nat) (v : Value) : Bx w l (wr.setCell ⟨g, j, none⟩ v) :=
  ⟨h.below.setCell (p := ⟨g, j, none⟩) hg v, fun i b cs t hi => (Below.heap_setCell wr ⟨g, j, none⟩ v b (hne i _ hi)).trans (h.blk i b cs t hi), h.lo, h.inj⟩

/-- The queue v holds ids in a block of one's own, other than those in av. -/
def QAt (w : World) (base : Nat) (av : List Nat) (v : Value) (l : List Nat) : Prop :=
  ∃ g o c cw, v = .slice (some ⟨g, o, none⟩) l.length c ∧ base ≤ g ∧ (∀ x ∈ av, x ≠ g) ∧ w.heap[g]? = some (Obj.cells cw 3 (0, 0)) ∧ l.length ≤ c ∧ o + c ≤ cw.size ∧ ∀ i, (h : i < l.length) → cw[o + i]? = some (.int .i64 (l[i] : Nat))
theorem QAt.below {w w' : World} {base : Nat} {av : List Nat} {v : Value} {l : List Nat} (h : QAt w base av v l) (hb : Below w.heap.size w w') : QAt w' base av v l := by
  obtain ⟨g, o, c, cw, h1, h2, h3, h4, h5⟩ := h
  exact ⟨g, o, c, cw, h1, h2, h3, kept hb h4 (Array.getElem?_eq_some_iff.1 h4).1, h5⟩
theorem QAt.set {w : World} {base : Nat} {av : List Nat} {v : Value} {l : List Nat} (h : QAt w base av v l) {b : Nat} (hb : b ∈ av) (j : Nat) (u : Value) : QAt (w.setCell ⟨b, j, none⟩ u) base av v l := by
  obtain ⟨g, o, c, cw, h1, h2, h3, h4, h5⟩ := h
  exact ⟨g, o, c, cw, h1, h2, h3, (Below.heap_setCell w ⟨b, j, none⟩ u g (Ne.symm (h3 b hb))).trans h4, h5⟩
/-- What the queue's slice says: its first id; without it. -/
theorem QAt.head {w : World} {base : Nat} {av : List Nat} {v : Value} {x : Nat} {l : List Nat} (h : QAt w base av v (x :: l)) :
    ∃ g o c, v = .slice (some ⟨g, o, none⟩) (l.length + 1) c ∧ l.length + 1 ≤ c ∧ w.cell? ⟨g, o, none⟩ = some (.int .i64 (x : Nat)) ∧ QAt w base av (.slice (some ⟨g, o + 1, none⟩) l.length (c - 1)) l := by
  obtain ⟨g, o, c, cw, h1, h2, h3, h4, h5, h6, h7⟩ := h
  simp only [List.length_cons] at h1 h5 h7
  refine ⟨g, o, c, h1, h5, ?_, g, o + 1, c - 1, cw, rfl, h2, h3, h4, by omega, by omega, fun i hi => ?_⟩
  · rw [cell_of_row w g o cw _ (0, 0) h4]
    have := h7 0 (by omega)
    simpa using this
  · have := h7 (i + 1) (by omega)
    rw [show o + 1 + i = o + (i + 1) by omega, this]; simp

theorem tyInt : ∃ i, Tryz.prog.info? 3 = some i ∧ i.size = 1 ∧ i.bytes = 8 := by
  have h : (Tryz.prog.info? 3).map (fun i => (i.size, i.bytes)) = some (1, 8) := by kernel_rfl
  cases hi : Tryz.prog.info? 3 with
  | none => rw [hi] at h; cases h
  | some i => rw [hi] at h; injection h with h; injection h with h1 h2; exact ⟨i, rfl, h1, h2⟩
theorem zeroInt (w : World) : (zeroValue 3).run Tryz.prog w = .ok (.int .i64 0) w := by kernel_rfl

/-- append(wait, n): in place, or in a new block. -/
theorem QAt.push {w : World} {base : Nat} {av : List Nat} {v : Value} {l : List Nat} (h : QAt w base av v l) (hl : l.length < 900000) (hbase : base ≤ w.heap.size) (hav : ∀ x ∈ av, x < w.heap.size) (x gy cy : Nat) (hy : w.cell? ⟨gy, 0, none⟩ = some (.int .i64 (x : Nat))) :
    ∃ v' w', (Builtin.append_ #[49, 49] 49 #[v, .slice (some ⟨gy, 0, none⟩) 1 cy]).run Tryz.prog w = .ok v' w' ∧ QAt w' base av v' (l ++ [x]) ∧
      ((∃ g j, base ≤ g ∧ (∀ x ∈ av, x ≠ g) ∧ w' = w.setCell ⟨g, j, none⟩ (.int .i64 (x : Nat))) ∨ ∃ o, w' = w.drew.alloc o) := by
  obtain ⟨g, o, c, cw, rfl, h2, h3, h4, h5, h6, h7⟩ := h
  obtain ⟨i, hi, hs, hbt⟩ := tyInt
  have hu : Tryz.prog.underlying 49 = some (.slice 3) := Tryz.underlying49
  have hx : Ex.srcTy (Tryz.prog.underlying 49) = true := by rw [hu]; rfl
  have hn : ∀ W : World, (Builtin.lenOf (.slice (some ⟨gy, 0, none⟩) 1 cy)).run Tryz.prog W = .ok 1 W := fun W => rfl
  have hload : ∀ W : World, W.cell? ⟨gy, 0, none⟩ = some (.int .i64 (x : Nat)) → (Builtin.firstCells 1 1 (.slice (some ⟨gy, 0, none⟩) 1 cy)).run Tryz.prog W = .ok #[.int .i64 (x : Nat)] W := fun W hW => by
    have := run_loadCells_list (P := Tryz.prog) (w := W) ⟨gy, 0, none⟩ [.int .i64 (x : Nat)] (fun j u hu => by
      cases j with
      | zero => simp at hu; subst hu; exact hW
      | succ j => simp at hu)
    simpa [Builtin.firstCells] using this
  by_cases hc : l.length + 1 ≤ c
  · -- in place
    have hst : (storeCells ⟨g, o + l.length * 1, none⟩ [.int .i64 (x : Nat)]).run Tryz.prog w = .ok () (w.setCell ⟨g, o + l.length, none⟩ (.int .i64 (x : Nat))) := by
      have hcell : (w.cell? ⟨g, o + l.length, none⟩).isSome = true := by rw [cell_of_row w g _ cw _ (0, 0) h4]; simp; omega
      have hfz : w.frozen? ⟨g, o + l.length, none⟩ = false := by simp [World.frozen?, h4]
      have := run_storeCells_cells (P := Tryz.prog) g (o + l.length) [.int .i64 (x : Nat)] 0 w (fun j hj => by
        have : j = 0 := by simpa using hj
        subst this; exact hcell) (fun j hj => by
        have : j = 0 := by simpa using hj
        subst this; exact hfz) (fun u hu => by simp at hu; subst hu; rfl)
      rw [Nat.mul_one]
      exact this
    have hrun := Ex.run_append_in (P := Tryz.prog) (ty := 49) (sT := 49) (xT := 49) (b := g) (off := o) (sLen := l.length) (sCap := c) (n := 1) (size := 1) (y := .slice (some ⟨gy, 0, none⟩) 1 cy) hu hx (by simp [Ex.tySize, hi, hs]) (hn w) hc (hload w hy) hst
    refine ⟨_, _, hrun, ⟨g, o, c, _, by simp, h2, h3, heap_setCell_at _ h4, by simpa using hc, by simp; omega, fun j hj => ?_⟩, .inl ⟨g, _, h2, h3, rfl⟩⟩
    simp only [List.length_append, List.length_cons, List.length_nil] at hj
    by_cases e : j = l.length
    · subst e
      rw [Array.getElem?_setIfInBounds]
      simp; omega
    · rw [Array.getElem?_setIfInBounds, if_neg (by omega), h7 j (by omega), List.getElem_append_left (by omega)]
  · -- in a new block
    have hold : (Builtin.firstCells 1 l.length (.slice (some ⟨g, o, none⟩) l.length c)).run Tryz.prog w.drew = .ok (l.map fun (i : Nat) => Value.int .i64 (i : Int)).toArray w.drew := by
      have := run_loadCells_list (P := Tryz.prog) (w := w.drew) ⟨g, o, none⟩ (l.map fun (i : Nat) => Value.int .i64 (i : Int)) (fun j u hu => by
        have hj : j < l.length := by
          by_cases hj : j < l.length
          · exact hj
          · rw [List.getElem?_eq_none (by simp; omega)] at hu; cases hu
        have e : w.drew.cell? ⟨g, o + j, none⟩ = w.cell? ⟨g, o + j, none⟩ := rfl
        rw [Ex.addr_add, e, cell_of_row w g _ cw _ (0, 0) h4, h7 j hj]
        simp [hj] at hu
        rw [← hu])
      simpa [Builtin.firstCells] using this
    obtain ⟨q, hq, hrun⟩ := Ex.run_append_new (P := Tryz.prog) (ty := 49) (sT := 49) (xT := 49) (base := some ⟨g, o, none⟩) (sLen := l.length) (sCap := c) (n := 1) (size := 1) (y := .slice (some ⟨gy, 0, none⟩) 1 cy) (i := i) hu hx hi hs (by rw [hbt]; decide) (hn w) (by omega) (by omega) hold (hload w.drew hy) (zeroInt w.drew)
    refine ⟨_, _, hrun, ⟨w.heap.size, 0, q, _, by simp, hbase, fun y hy => Nat.ne_of_lt (hav y hy), heap_alloc_new w.drew _, by simpa using hq, ?_, fun j hj => ?_⟩, .inr ⟨_, rfl⟩⟩
    · simp [Builtin.zeroCells, Value.cells]; omega
    · simp only [List.length_append, List.length_cons, List.length_nil] at hj
      rw [Nat.zero_add]
      rw [Array.getElem?_append_left (by simp; omega)]
      by_cases e : j = l.length
      · subst e; simp
      · rw [Array.getElem?_append_left (by simp; omega)]
        simp [show j < l.length by omega]
end Go.Proofs.YtjdmkgnlakonbaaGreatDoor
