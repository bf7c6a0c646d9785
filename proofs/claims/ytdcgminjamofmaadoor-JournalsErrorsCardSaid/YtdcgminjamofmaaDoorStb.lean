/- Plain laws of stable merging: of equal elements those of the first list stand first. No program here. -/
import Derived.WalkKit
namespace Go.Proofs.YtdcgminjamofmaaDoor

section
variable {α : Type} (t : α → Int)
def leT (a b : α) : Bool := decide (t a ≤ t b)
/-- The stable merge. -/
def mrg (a b : List α) : List α := a.merge b (leT t)
/-- The stable order. -/
def srt : List α → List α
  | [] => []
  | x :: l => mrg t [x] (srt l)
def AscT (l : List α) : Prop := l.Pairwise (fun a b => t a ≤ t b)
end

section
variable {α : Type} {t : α → Int}
theorem mrg_nil (a : List α) : mrg t a [] = a := by unfold mrg; simp
theorem nil_mrg (a : List α) : mrg t [] a = a := by unfold mrg; simp
theorem mrg_pos {x y : α} {a b : List α} (h : t x ≤ t y) : mrg t (x :: a) (y :: b) = x :: mrg t a (y :: b) := by
  unfold mrg
  exact List.cons_merge_cons_pos _ _ _ (by simpa [leT] using h)
theorem mrg_neg {x y : α} {a b : List α} (h : t y < t x) : mrg t (x :: a) (y :: b) = y :: mrg t (x :: a) b := by
  unfold mrg
  exact List.cons_merge_cons_neg _ _ _ (by simp [leT]; omega)
theorem mrg_len (a b : List α) : (mrg t a b).length = a.length + b.length := by unfold mrg; exact List.length_merge _ _ _
theorem mrg_mem {x : α} {a b : List α} : x ∈ mrg t a b ↔ x ∈ a ∨ x ∈ b := by unfold mrg; exact List.mem_merge
theorem mrg_app {a b : List α} (h : ∀ x ∈ a, ∀ y ∈ b, t x ≤ t y) : mrg t a b = a ++ b := by
  unfold mrg
  exact List.merge_of_le fun x y hx hy => by simpa [leT] using h x hx y hy
theorem mrg_asc {a b : List α} (ha : AscT t a) (hb : AscT t b) : AscT t (mrg t a b) := by
  have h := List.pairwise_merge (le := leT t) (fun a b c h1 h2 => by simp [leT] at *; omega) (fun a b => by simp [leT]; omega) a b (ha.imp (fun h => by simpa [leT] using h)) (hb.imp (fun h => by simpa [leT] using h))
  exact h.imp (fun h => by simpa [leT] using h)

theorem mrg_split_aux (n : Nat) : ∀ (A1 A2 B1 B2 : List α), A1.length + B1.length ≤ n → (∀ x ∈ A1, ∀ y ∈ B2, t x ≤ t y) → (∀ x ∈ A2, ∀ y ∈ B1, t y < t x) → mrg t (A1 ++ A2) (B1 ++ B2) = mrg t A1 B1 ++ mrg t A2 B2 := by
  induction n with
  | zero =>
    intro A1 A2 B1 B2 hn _ _
    have h1 : A1 = [] := List.length_eq_zero_iff.1 (by omega)
    have h2 : B1 = [] := List.length_eq_zero_iff.1 (by omega)
    subst h1 h2
    simp [nil_mrg]
  | succ n ih =>
    intro A1 A2 B1 B2 hn h1 h2
    cases A1 with
    | nil =>
      cases B1 with
      | nil => simp [nil_mrg]
      | cons y B1 =>
        rw [nil_mrg, List.nil_append]
        cases A2 with
        | nil => simp [nil_mrg]
        | cons x A2 =>
          have hxy := h2 x (by simp) y (by simp)
          rw [List.cons_append, mrg_neg hxy]
          have := ih [] (x :: A2) B1 B2 (by simp at hn ⊢; omega) (by simp) (fun x hx y hy => h2 x hx y (by simp [hy]))
          rw [nil_mrg, List.nil_append] at this
          rw [this]
          rfl
    | cons x A1 =>
      cases B1 with
      | nil =>
        rw [mrg_nil, List.nil_append]
        cases B2 with
        | nil => simp [mrg_nil]
        | cons y B2 =>
          have hxy := h1 x (by simp) y (by simp)
          rw [List.cons_append, mrg_pos hxy]
          have := ih A1 A2 [] (y :: B2) (by simp at hn ⊢; omega) (fun x hx y hy => h1 x (by simp [hx]) y hy) (by simp)
          rw [mrg_nil, List.nil_append] at this
          rw [this]
          rfl
      | cons y B1 =>
        by_cases hxy : t x ≤ t y
        · rw [List.cons_append, List.cons_append, mrg_pos hxy, mrg_pos hxy]
          have := ih A1 A2 (y :: B1) B2 (by simp at hn ⊢; omega) (fun x hx y hy => h1 x (by simp [hx]) y hy) h2
          rw [List.cons_append] at this
          rw [this]
          rfl
        · rw [List.cons_append, List.cons_append, mrg_neg (by omega), mrg_neg (by omega)]
          have := ih (x :: A1) A2 B1 B2 (by simp at hn ⊢; omega) h1 (fun x hx y hy => h2 x hx y (by simp [hy]))
          rw [List.cons_append] at this
          rw [this]
          rfl
/-- Two merges behind each other. -/
theorem mrg_split (A1 A2 B1 B2 : List α) (h1 : ∀ x ∈ A1, ∀ y ∈ B2, t x ≤ t y) (h2 : ∀ x ∈ A2, ∀ y ∈ B1, t y < t x) : mrg t (A1 ++ A2) (B1 ++ B2) = mrg t A1 B1 ++ mrg t A2 B2 :=
  mrg_split_aux _ A1 A2 B1 B2 (Nat.le_refl _) h1 h2

theorem mrg_assoc_aux (n : Nat) : ∀ (A B C : List α), A.length + B.length + C.length ≤ n → mrg t (mrg t A B) C = mrg t A (mrg t B C) := by
  induction n with
  | zero =>
    intro A B C hn
    have h1 : A = [] := List.length_eq_zero_iff.1 (by omega)
    have h2 : B = [] := List.length_eq_zero_iff.1 (by omega)
    subst h1 h2
    simp [nil_mrg]
  | succ n ih =>
    intro A B C hn
    cases A with
    | nil => simp [nil_mrg]
    | cons a A =>
      cases B with
      | nil => simp [nil_mrg, mrg_nil]
      | cons b B =>
        cases C with
        | nil => simp [mrg_nil]
        | cons c C =>
          simp only [List.length_cons] at hn
          by_cases hab : t a ≤ t b
          · rw [mrg_pos hab]
            by_cases hac : t a ≤ t c
            · rw [mrg_pos hac, ih A (b :: B) (c :: C) (by simp; omega)]
              by_cases hbc : t b ≤ t c
              · rw [mrg_pos hbc, mrg_pos hab]
              · rw [mrg_neg (by omega), mrg_pos hac]
            · rw [mrg_neg (by omega), mrg_neg (show t c < t b by omega), mrg_neg (by omega), ← mrg_pos hab, ih (a :: A) (b :: B) C (by simp; omega)]
          · rw [mrg_neg (show t b < t a by omega)]
            by_cases hbc : t b ≤ t c
            · rw [mrg_pos hbc, mrg_pos hbc, mrg_neg (by omega), ih (a :: A) B (c :: C) (by simp; omega)]
            · rw [mrg_neg (by omega), mrg_neg (show t c < t b by omega), mrg_neg (by omega), ← mrg_neg (show t b < t a by omega), ih (a :: A) (b :: B) C (by simp; omega)]
theorem mrg_assoc (A B C : List α) : mrg t (mrg t A B) C = mrg t A (mrg t B C) := mrg_assoc_aux _ A B C (Nat.le_refl _)

theorem srt_app (A B : List α) : srt t (A ++ B) = mrg t (srt t A) (srt t B) := by
  induction A with
  | nil => simp [srt, nil_mrg]
  | cons x A ih => simp only [List.cons_append, srt, ih, mrg_assoc]
theorem srt_one (x : α) : srt t [x] = [x] := by simp [srt, mrg_nil]
theorem srt_len (A : List α) : (srt t A).length = A.length := by
  induction A with
  | nil => rfl
  | cons x A ih => simp [srt, mrg_len, ih]; omega
theorem asc_one (x : α) : AscT t [x] := List.pairwise_singleton _ _
theorem srt_asc (A : List α) : AscT t (srt t A) := by
  induction A with
  | nil => exact List.Pairwise.nil
  | cons x A ih => exact mrg_asc (asc_one x) ih
theorem srt_mem {x : α} {A : List α} : x ∈ srt t A ↔ x ∈ A := by
  induction A with
  | nil => simp [srt]
  | cons y A ih => simp [srt, mrg_mem, ih]
theorem srt_of_asc {A : List α} (h : AscT t A) : srt t A = A := by
  induction A with
  | nil => rfl
  | cons x A ih =>
    obtain ⟨h1, h2⟩ := List.pairwise_cons.1 h
    simp only [srt, ih h2]
    exact mrg_app fun y hy z hz => by
      rw [List.mem_singleton] at hy
      subst hy
      exact h1 z hz
theorem srt_two {A B : List α} (ha : AscT t A) (hb : AscT t B) : srt t (A ++ B) = mrg t A B := by rw [srt_app, srt_of_asc ha, srt_of_asc hb]
theorem asc_app {A B : List α} : AscT t (A ++ B) ↔ AscT t A ∧ AscT t B ∧ ∀ x ∈ A, ∀ y ∈ B, t x ≤ t y := List.pairwise_append
theorem asc_get {A : List α} (h : AscT t A) {i j : Nat} (hi : i < A.length) (hj : j < A.length) (hij : i ≤ j) : t A[i] ≤ t A[j] := by
  rcases Nat.lt_or_eq_of_le hij with hlt | rfl
  · exact List.pairwise_iff_getElem.1 h i j hi hj hlt
  · exact Int.le_refl _
/-- One element moved to its place from behind. -/
theorem mrg_back {S1 S2 : List α} {x : α} (h1 : ∀ y ∈ S1, t y ≤ t x) (h2 : ∀ y ∈ S2, t x < t y) : mrg t (S1 ++ S2) [x] = S1 ++ x :: S2 := by
  have := mrg_split (t := t) S1 S2 [x] [] (by simp) (by simpa using h2)
  rw [List.append_nil, mrg_nil, mrg_app (a := S1) (b := [x]) (by simpa using h1)] at this
  rw [this, List.append_assoc]
  rfl
/-- One element moved to its place from the front. -/
theorem mrg_front {S1 S2 : List α} {x : α} (h1 : ∀ y ∈ S1, t y < t x) (h2 : ∀ y ∈ S2, t x ≤ t y) : mrg t [x] (S1 ++ S2) = S1 ++ x :: S2 := by
  have := mrg_split (t := t) [] [x] S1 S2 (by simp) (by simpa using h1)
  rw [List.nil_append, nil_mrg, mrg_app (a := [x]) (b := S2) (by simpa using h2)] at this
  rw [this]
  rfl
/-- The two halves of a symmetric merge. -/
theorem mrg_sym {A B : List α} {p q : Nat} (ha : AscT t A) (hb : AscT t B) (hp : p ≤ A.length) (hq : q ≤ B.length)
    (h1 : p = 0 ∨ q = B.length ∨ ∃ x y, A[p - 1]? = some x ∧ B[q]? = some y ∧ t x ≤ t y) (h2 : p = A.length ∨ q = 0 ∨ ∃ x y, A[p]? = some x ∧ B[q - 1]? = some y ∧ t y < t x) :
    mrg t A B = mrg t (A.take p) (B.take q) ++ mrg t (A.drop p) (B.drop q) := by
  conv => lhs; rw [← List.take_append_drop p A, ← List.take_append_drop q B]
  refine mrg_split _ _ _ _ ?_ ?_
  · intro x hx y hy
    obtain ⟨i, hi, rfl⟩ := List.mem_iff_getElem.1 hx
    obtain ⟨j, hj, rfl⟩ := List.mem_iff_getElem.1 hy
    simp only [List.length_take, List.length_drop] at hi hj
    rw [List.getElem_take, List.getElem_drop]
    rcases h1 with h | h | ⟨u, v, hu, hv, huv⟩
    · omega
    · omega
    · obtain ⟨hpu, rfl⟩ := List.getElem?_eq_some_iff.1 hu
      obtain ⟨hqv, rfl⟩ := List.getElem?_eq_some_iff.1 hv
      have e1 := asc_get ha (i := i) (j := p - 1) (by omega) hpu (by omega)
      have e2 := asc_get hb (i := q) (j := q + j) hqv (by omega) (by omega)
      omega
  · intro x hx y hy
    obtain ⟨i, hi, rfl⟩ := List.mem_iff_getElem.1 hx
    obtain ⟨j, hj, rfl⟩ := List.mem_iff_getElem.1 hy
    simp only [List.length_take, List.length_drop] at hi hj
    rw [List.getElem_take, List.getElem_drop]
    rcases h2 with h | h | ⟨u, v, hu, hv, huv⟩
    · omega
    · omega
    · obtain ⟨hpu, rfl⟩ := List.getElem?_eq_some_iff.1 hu
      obtain ⟨hqv, rfl⟩ := List.getElem?_eq_some_iff.1 hv
      have e1 := asc_get ha (i := p) (j := p + i) hpu (by omega) (by omega)
      have e2 := asc_get hb (i := j) (j := q - 1) (by omega) hqv (by omega)
      omega
end
end Go.Proofs.YtdcgminjamofmaaDoor
