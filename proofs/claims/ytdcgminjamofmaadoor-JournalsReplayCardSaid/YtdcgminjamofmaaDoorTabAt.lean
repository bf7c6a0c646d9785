/- The table of crimplaw42.replayed in memory. -/
import Derived.Test.YtdcgminjamofmaaDoorTab
namespace Go.Proofs.YtdcgminjamofmaaDoor
open Go.RowKit

def JobS.zero : JobS := ⟨0, 0, 0, 0, 0, false⟩
def tcells (o : Option JobS) : List Value := (o.getD JobS.zero).cells
def tabC (T : Tab) : List Value := T.flatMap tcells
def thereC (T : Tab) : List Value := T.map fun o => .bool o.isSome
def numC : List Value := [.int .i64 1, .int .i64 2, .int .i64 300, .int .i64 65535]
structure TabAt (w wr : World) (T : Tab) : Prop where
  len : T.length = 4
  nums : wr.heap[w.heap.size]? = some (.cells numC.toArray 3 (0, 0))
  there : wr.heap[w.heap.size + 1]? = some (.cells (thereC T).toArray 68 (0, 0))
  jobs : wr.heap[w.heap.size + 1 + 1]? = some (.cells (tabC T).toArray 69 (0, 0))
  below : Below w.heap.size w wr
theorem TabAt.lt {w wr : World} {T : Tab} (h : TabAt w wr T) : w.heap.size + 1 + 1 < wr.heap.size := (Array.getElem?_eq_some_iff.1 h.jobs).1
theorem TabAt.keep {w wr w' : World} {T : Tab} (h : TabAt w wr T) (hb : Below wr.heap.size wr w') : TabAt w w' T := by
  have hl := h.lt
  refine ⟨h.len, ?_, ?_, ?_, h.below.trans (hb.mono (by omega))⟩
  · rw [hb.block _ (by omega)]; exact h.nums
  · rw [hb.block _ (by omega)]; exact h.there
  · rw [hb.block _ (by omega)]; exact h.jobs
theorem TabAt.grown {w wr w' : World} {T : Tab} {row : Option Nat} (h : TabAt w wr T) (hg : wr.grownBy w' row) (hr : ∀ q, row = some q → w.heap.size + 1 + 1 < q) : TabAt w w' T := by
  have hl := h.lt
  have hne : ∀ q, q ≤ w.heap.size + 1 + 1 → some q ≠ row := fun q hq e => by have := hr q e.symm; omega
  refine ⟨h.len, ?_, ?_, ?_, h.below.grown hg (by omega) (fun q hq => by have := hr q hq; omega)⟩
  · rw [hg.block _ (by omega) (hne _ (by omega))]; exact h.nums
  · rw [hg.block _ (by omega) (hne _ (by omega))]; exact h.there
  · rw [hg.block _ (by omega) (hne _ (by omega))]; exact h.jobs
theorem TabAt.alloc {w wr : World} {T : Tab} (h : TabAt w wr T) (o : Obj) : TabAt w (wr.alloc o) T := h.keep ((Below.refl _ _).alloc (Nat.le_refl _) o)
theorem TabAt.far {w wr : World} {T : Tab} (h : TabAt w wr T) {g : Nat} (hg : w.heap.size + 1 + 1 < g) (i : Nat) (v : Value) : TabAt w (wr.setCell ⟨g, i, none⟩ v) T := by
  refine ⟨h.len, ?_, ?_, ?_, h.below.setCell (p := ⟨g, i, none⟩) (by show _ ≤ g; omega) v⟩
  · rw [Below.heap_setCell wr ⟨g, i, none⟩ v _ (by show _ ≠ g; omega)]; exact h.nums
  · rw [Below.heap_setCell wr ⟨g, i, none⟩ v _ (by show _ ≠ g; omega)]; exact h.there
  · rw [Below.heap_setCell wr ⟨g, i, none⟩ v _ (by show _ ≠ g; omega)]; exact h.jobs
theorem TabAt.num {w wr : World} {T : Tab} (h : TabAt w wr T) {i : Nat} (hi : i < 4) : wr.cell? ⟨w.heap.size, i, none⟩ = some (.int .i64 (tabNo i)) := by
  rw [cell_of_row _ _ i _ _ _ h.nums]
  match i, hi with
  | 0, _ => rfl
  | 1, _ => rfl
  | 2, _ => rfl
  | 3, _ => rfl
theorem TabAt.is {w wr : World} {T : Tab} (h : TabAt w wr T) {i : Nat} (hi : i < 4) : wr.cell? ⟨w.heap.size + 1, i, none⟩ = some (.bool (T.getD i none).isSome) := by
  rw [cell_of_row _ _ i _ _ _ h.there]
  have hl := h.len
  simp only [thereC, List.getElem?_toArray, List.getElem?_map]
  rw [List.getElem?_eq_getElem (by omega), List.getD_eq_getElem?_getD, List.getElem?_eq_getElem (by omega)]
  rfl
theorem tcells_len (o : Option JobS) : (tcells o).length = 6 := rfl
theorem TabAt.job {w wr : World} {T : Tab} (h : TabAt w wr T) {i f : Nat} (hi : i < 4) (hf : f < 6) : wr.cell? ⟨w.heap.size + 1 + 1, i * 6 + f, none⟩ = (tcells (T.getD i none))[f]? := by
  rw [cell_of_row _ _ _ _ _ _ h.jobs]
  have hl := h.len
  have := flat_at tcells 6 tcells_len T i f (by omega) hf
  have e : T.getD i none = T[i]'(by omega) := by rw [List.getD_eq_getElem?_getD, List.getElem?_eq_getElem (by omega)]; rfl
  rw [e]
  simpa [tabC] using this
theorem row_set {w : World} {g : Nat} {cs : Array Value} {t : TypeId} {fr : Nat × Nat} (h : w.heap[g]? = some (.cells cs t fr)) (i : Nat) (v : Value) : (w.setCell ⟨g, i, none⟩ v).heap[g]? = some (.cells (cs.setIfInBounds i v) t fr) := by
  simp [World.setCell, Array.getElem?_modify, h]
theorem tab_set {T : Tab} (h : T.length = 4) {k : Nat} (hk : k < 4) (j : JobS) :
    ((((((tabC T).toArray.setIfInBounds (k * 6) (.int .i64 j.job)).setIfInBounds (k * 6 + 1) (.int .i64 j.copies)).setIfInBounds (k * 6 + 2) (.int .i64 j.printed)).setIfInBounds (k * 6 + 3) (.int .i64 j.folded)).setIfInBounds (k * 6 + 4) (.int .i64 j.cut)).setIfInBounds (k * 6 + 5) (.bool j.deliv) = (tabC (T.set k (some j))).toArray := by
  simp only [List.setIfInBounds_toArray]
  congr 1
  match T, h with
  | [t0, t1, t2, t3], _ =>
    match k, hk with
    | 0, _ => simp [tabC, tcells, JobS.cells]
    | 1, _ => simp [tabC, tcells, JobS.cells]
    | 2, _ => simp [tabC, tcells, JobS.cells]
    | 3, _ => simp [tabC, tcells, JobS.cells]
theorem there_set {T : Tab} (h : T.length = 4) {k : Nat} (hk : k < 4) (j : JobS) : (thereC T).toArray.setIfInBounds k (.bool true) = (thereC (T.set k (some j))).toArray := by
  match T, h with
  | [t0, t1, t2, t3], _ =>
    match k, hk with
    | 0, _ => rfl
    | 1, _ => rfl
    | 2, _ => rfl
    | 3, _ => rfl
theorem there_same {T : Tab} (h : T.length = 4) {k : Nat} (hk : k < 4) (hs : (T.getD k none).isSome = true) (j : JobS) : thereC (T.set k (some j)) = thereC T := by
  match T, h with
  | [t0, t1, t2, t3], _ =>
    match k, hk with
    | 0, _ => cases t0 with
      | none => cases hs
      | some _ => rfl
    | 1, _ => cases t1 with
      | none => cases hs
      | some _ => rfl
    | 2, _ => cases t2 with
      | none => cases hs
      | some _ => rfl
    | 3, _ => cases t3 with
      | none => cases hs
      | some _ => rfl
/-- The six cells of a job are stored. -/
def put6 (w : World) (g o : Nat) (j : JobS) : World := (((((w.setCell ⟨g, o, none⟩ (.int .i64 j.job)).setCell ⟨g, o + 1, none⟩ (.int .i64 j.copies)).setCell ⟨g, o + 2, none⟩ (.int .i64 j.printed)).setCell ⟨g, o + 3, none⟩ (.int .i64 j.folded)).setCell ⟨g, o + 4, none⟩ (.int .i64 j.cut)).setCell ⟨g, o + 5, none⟩ (.bool j.deliv)
theorem put6_ne {w : World} {g o q : Nat} {j : JobS} (h : q ≠ g) : (put6 w g o j).heap[q]? = w.heap[q]? := by
  unfold put6
  simp only [Below.heap_setCell _ ⟨g, _, none⟩ _ q h]
theorem put6_below {B : Nat} {w wr : World} {g o : Nat} {j : JobS} (h : Below B w wr) (hg : B ≤ g) : Below B w (put6 wr g o j) := by
  unfold put6
  exact (((((h.setCell (p := ⟨g, o, none⟩) hg _).setCell (p := ⟨g, o + 1, none⟩) hg _).setCell (p := ⟨g, o + 2, none⟩) hg _).setCell (p := ⟨g, o + 3, none⟩) hg _).setCell (p := ⟨g, o + 4, none⟩) hg _).setCell (p := ⟨g, o + 5, none⟩) hg _
theorem TabAt.put {w wr : World} {T : Tab} (h : TabAt w wr T) {k : Nat} (hk : k < 4) (hs : (T.getD k none).isSome = true) (j : JobS) : TabAt w (put6 wr (w.heap.size + 1 + 1) (k * 6) j) (T.set k (some j)) := by
  refine ⟨by rw [List.length_set]; exact h.len, ?_, ?_, ?_, put6_below h.below (by omega)⟩
  · rw [put6_ne (by omega)]; exact h.nums
  · rw [put6_ne (by omega), there_same h.len hk hs]; exact h.there
  · rw [← tab_set h.len hk j]
    unfold put6
    exact row_set (row_set (row_set (row_set (row_set (row_set h.jobs _ _) _ _) _ _) _ _) _ _) _ _
theorem TabAt.order {w wr wr' : World} {T : Tab} (h : TabAt w wr T) {k : Nat} (hk : k < 4) (j : JobS)
    (hn : wr'.heap[w.heap.size]? = wr.heap[w.heap.size]?) (ht : wr'.heap[w.heap.size + 1]? = (wr.setCell ⟨w.heap.size + 1, k, none⟩ (.bool true)).heap[w.heap.size + 1]?) (hj : wr'.heap[w.heap.size + 1 + 1]? = wr.heap[w.heap.size + 1 + 1]?) (hb : Below w.heap.size w wr') :
    TabAt w (put6 wr' (w.heap.size + 1 + 1) (k * 6) j) (T.set k (some j)) := by
  refine ⟨by rw [List.length_set]; exact h.len, ?_, ?_, ?_, put6_below hb (by omega)⟩
  · rw [put6_ne (by omega), hn]; exact h.nums
  · rw [put6_ne (by omega), ht, row_set h.there, there_set h.len hk j]
  · rw [← tab_set h.len hk j]
    unfold put6
    exact row_set (row_set (row_set (row_set (row_set (row_set (hj.trans h.jobs) _ _) _ _) _ _) _ _) _ _) _ _

def TInv (T : Tab) : Prop := ∀ j, some j ∈ T → j.inv
theorem TInv.get {T : Tab} (h : TInv T) {k : Nat} {j : JobS} (hj : T.getD k none = some j) : j.inv := by
  apply h
  rw [List.getD_eq_getElem?_getD] at hj
  cases hg : T[k]? with
  | none => rw [hg] at hj; cases hj
  | some o => rw [hg] at hj; exact List.mem_of_getElem? (hg.trans (congrArg some hj))
theorem TInv.set {T : Tab} (h : TInv T) {k : Nat} {j : JobS} (hj : j.inv) : TInv (T.set k (some j)) := by
  intro q hq
  rcases List.mem_or_eq_of_mem_set hq with hq | hq
  · exact h q hq
  · cases hq; exact hj

theorem rep_err {rs : List Rec} {T : Tab} {k p : Nat} {r : Rec} (hrel : repT T0 0 rs = repT T k (rs.drop k)) (hk : k < rs.length) (hr : rs[k] = r) (hs : jobStep (T.getD (ix r.j) none) r = .inl p) : repT T0 0 rs = (T, k, errNo p) := by
  rw [hrel, List.drop_eq_getElem_cons hk, hr]
  unfold repT
  rw [hs]
theorem rep_ok {rs : List Rec} {T : Tab} {k : Nat} {r : Rec} {j' : JobS} (hrel : repT T0 0 rs = repT T k (rs.drop k)) (hk : k < rs.length) (hr : rs[k] = r) (hs : jobStep (T.getD (ix r.j) none) r = .inr j') : repT T0 0 rs = repT (T.set (ix r.j) (some j')) (k + 1) (rs.drop (k + 1)) := by
  rw [hrel, List.drop_eq_getElem_cons hk, hr]
  conv => lhs; unfold repT
  rw [hs]
theorem rep_end {rs : List Rec} {T : Tab} {k : Nat} (hrel : repT T0 0 rs = repT T k (rs.drop k)) (hk : k = rs.length) : repT T0 0 rs = (T, k, 0) := by
  rw [hrel, hk, List.drop_length]
  rfl
theorem step_inv {o : Option JobS} {r : Rec} {j' : JobS} (hr : r.ok = true) (ho : ∀ j, o = some j → j.inv) (h : jobStep o r = .inr j') : j'.inv := by
  have hok := okRec_iff.1 hr
  unfold jobStep at h
  split at h
  · cases o with
    | some _ => cases h
    | none =>
      dsimp only at h
      split at h
      · cases h
      · cases h
        refine ⟨by dsimp only; omega, by dsimp only; omega, ?_, ?_, ?_, ?_⟩ <;> dsimp only <;> omega
  · cases o with
    | none => cases h
    | some jb => exact (doS_ok (by omega) (ho jb rfl) h).1

/-- The error code of a step. -/
def codeE (o : Option JobS) (r : Rec) : Int := match jobStep o r with
  | .inl p => errNo p
  | .inr _ => 0
def codeB (s : Bool) (k v C P F U : Int) (D : Bool) : Int :=
  if (k == 1 && s) then 8 else if (k != 1 && !s) then 7 else if (k == 1 && v == 0) then 6 else if D then 6 else if (k == 3 && decide (P - F < v)) then 6 else if (k == 4 && decide (P - F < v)) then 6
  else if (k == 5 && decide (F - U < v)) then 6 else if (k == 6 && decide (U < C)) then 6 else if (k == 2 && decide (1000000000 < P + v)) then 3 else 0
theorem codeE_eq {o : Option JobS} {r : Rec} {J C P F U : Int} {D : Bool} (h : o.getD JobS.zero = ⟨J, C, P, F, U, D⟩) (hk : 1 ≤ r.k ∧ r.k ≤ 6) : codeE o r = codeB o.isSome r.k r.v C P F U D := by
  obtain ⟨t, k, j, v⟩ := r
  dsimp only at hk ⊢
  have hk6 : k = 1 ∨ k = 2 ∨ k = 3 ∨ k = 4 ∨ k = 5 ∨ k = 6 := by omega
  cases o with
  | none =>
    cases h
    rcases hk6 with rfl | rfl | rfl | rfl | rfl | rfl
    · by_cases hv : v = 0 <;> simp [codeE, codeB, jobStep, hv, errNo]
    all_goals simp [codeE, codeB, jobStep, errNo]
  | some jb =>
    cases h
    rcases hk6 with rfl | rfl | rfl | rfl | rfl | rfl
    · simp [codeE, codeB, jobStep, errNo]
    · cases D
      · by_cases hc : P + v ≤ 1000000000
        · simp [codeE, codeB, jobStep, doS, hc, show ¬ (1000000000 < P + v) by omega]
        · simp [codeE, codeB, jobStep, doS, errNo, hc, show (1000000000 < P + v) by omega]
      · simp [codeE, codeB, jobStep, doS, errNo]
    · cases D
      · by_cases hc : v ≤ P - F
        · simp [codeE, codeB, jobStep, doS, hc, show ¬ (P - F < v) by omega]
        · simp [codeE, codeB, jobStep, doS, errNo, hc, show (P - F < v) by omega]
      · simp [codeE, codeB, jobStep, doS, errNo]
    · cases D
      · by_cases hc : v ≤ P - F
        · simp [codeE, codeB, jobStep, doS, hc, show ¬ (P - F < v) by omega]
        · simp [codeE, codeB, jobStep, doS, errNo, hc, show (P - F < v) by omega]
      · simp [codeE, codeB, jobStep, doS, errNo]
    · cases D
      · by_cases hc : v ≤ F - U
        · simp [codeE, codeB, jobStep, doS, hc, show ¬ (F - U < v) by omega]
        · simp [codeE, codeB, jobStep, doS, errNo, hc, show (F - U < v) by omega]
      · simp [codeE, codeB, jobStep, doS, errNo]
    · cases D
      · by_cases hc : C ≤ U
        · simp [codeE, codeB, jobStep, doS, hc, show ¬ (U < C) by omega]
        · simp [codeE, codeB, jobStep, doS, errNo, hc, show (U < C) by omega]
      · simp [codeE, codeB, jobStep, doS, errNo]
theorem step_lt {o : Option JobS} {r : Rec} {p : Nat} (h : jobStep o r = .inl p) : p < 5 := by
  unfold jobStep at h
  split at h
  · cases o with
    | some _ => cases h; omega
    | none =>
      dsimp only at h
      split at h
      · cases h; omega
      · cases h
  · cases o with
    | none => cases h; omega
    | some jb =>
      dsimp only at h
      unfold doS at h
      repeat' split at h
      all_goals cases h
      all_goals omega
theorem codeE_zero {o : Option JobS} {r : Rec} (h : codeE o r = 0) : ∃ j', jobStep o r = .inr j' := by
  unfold codeE at h
  cases hs : jobStep o r with
  | inl p => rw [hs] at h; exact absurd h (errNo_pos (step_lt hs))
  | inr j' => exact ⟨j', rfl⟩
theorem codeE_err {o : Option JobS} {r : Rec} (h : codeE o r ≠ 0) : ∃ p, jobStep o r = .inl p ∧ errNo p = codeE o r := by
  unfold codeE at h ⊢
  cases hs : jobStep o r with
  | inl p => exact ⟨p, rfl, rfl⟩
  | inr j' => rw [hs] at h; exact absurd rfl h
theorem step_form {o : Option JobS} {r : Rec} {j' : JobS} {J C P F U : Int} {D : Bool} (h : o.getD JobS.zero = ⟨J, C, P, F, U, D⟩) (hs : jobStep o r = .inr j') :
    (r.k = 1 → j' = ⟨r.j, r.v, 0, 0, 0, false⟩) ∧ (r.k ≠ 1 → o.isSome = true) ∧ (r.k = 2 → j' = ⟨J, C, P + r.v, F, U, D⟩) ∧ (r.k = 3 → j' = ⟨J, C, P - r.v, F, U, D⟩) ∧ (r.k = 4 → j' = ⟨J, C, P, F + r.v, U, D⟩) ∧ (r.k = 5 → j' = ⟨J, C, P, F, U + r.v, D⟩) ∧ (r.k = 6 → j' = ⟨J, C, P, F, U, true⟩) := by
  obtain ⟨t, k, j, v⟩ := r
  dsimp only
  unfold jobStep at hs
  dsimp only at hs
  by_cases hk : k = 1
  · rw [if_pos hk] at hs
    subst hk
    cases o with
    | some _ => cases hs
    | none =>
      dsimp only at hs
      split at hs
      · cases hs
      · cases hs
        simp
  · rw [if_neg hk] at hs
    cases o with
    | none => cases hs
    | some jb =>
      cases h
      dsimp only at hs
      refine ⟨fun h => absurd h hk, fun _ => rfl, ?_, ?_, ?_, ?_, ?_⟩
      all_goals
        intro hk'
        subst hk'
        simp only [doS] at hs
        simp at hs
        split at hs
        · cases hs
        · split at hs
          · cases hs; rfl
          · cases hs
end Go.Proofs.YtdcgminjamofmaaDoor
