/- Plain laws of the stable sort by blocks. No program here. -/
import Derived.Test.YtdcgminjamofmaaDoorStb
namespace Go.Proofs.YtdcgminjamofmaaDoor

section
variable {α : Type} (t : α → Int)
/-- The first k blocks, each in stable order. -/
def blks (bs : Nat) : Nat → List α → List α
  | 0, _ => []
  | k + 1, E => srt t (E.take bs) ++ blks bs k (E.drop bs)
def St1 (a : Nat) (D D' : List α) : Prop := ∃ k, a = 20 * k ∧ a ≤ D.length ∧ D' = blks t 20 k D ++ D.drop a
def St2 (bs : Nat) (D D' : List α) : Prop := ∃ K, D.length ≤ bs * K ∧ D' = blks t bs K D
def St3 (bs a : Nat) (D D' : List α) : Prop := ∃ k K, a = 2 * bs * k ∧ a ≤ D.length ∧ D.length ≤ a + bs * K ∧ D' = blks t (2 * bs) k D ++ blks t bs K (D.drop a)
end

section
variable {α : Type} {t : α → Int}
theorem blks_nil (bs k : Nat) : blks t bs k [] = [] := by
  induction k with
  | zero => rfl
  | succ k ih => simp [blks, srt, ih]
theorem blks_snoc (bs k : Nat) (D : List α) : blks t bs (k + 1) D = blks t bs k D ++ srt t ((D.drop (bs * k)).take bs) := by
  induction k generalizing D with
  | zero => simp [blks]
  | succ k ih =>
    rw [blks, ih (D.drop bs)]
    conv => rhs; rw [blks]
    rw [List.drop_drop, List.append_assoc, show bs + bs * k = bs * (k + 1) by rw [Nat.mul_succ]; omega]
theorem blks_len (bs k : Nat) (D : List α) (h : bs * k ≤ D.length) : (blks t bs k D).length = bs * k := by
  induction k generalizing D with
  | zero => rfl
  | succ k ih =>
    rw [Nat.mul_succ] at h ⊢
    rw [blks, List.length_append, srt_len, List.length_take, ih _ (by rw [List.length_drop]; omega)]
    omega
theorem st1_start (D : List α) : St1 t 0 D D := ⟨0, rfl, Nat.zero_le _, by simp [blks]⟩
theorem st1_step {a : Nat} {D D' : List α} (h : St1 t a D D') (hn : a + 20 ≤ D.length) : ∃ P X S, D' = P ++ X ++ S ∧ P.length = a ∧ X.length = 20 ∧ D.length = a + 20 + S.length ∧ St1 t (a + 20) D (P ++ srt t X ++ S) := by
  obtain ⟨k, rfl, ha, rfl⟩ := h
  refine ⟨blks t 20 k D, (D.drop (20 * k)).take 20, D.drop (20 * k + 20), ?_, blks_len 20 k D ha, ?_, ?_, k + 1, by omega, hn, ?_⟩
  · rw [List.append_assoc, ← List.drop_drop, List.take_append_drop]
  · rw [List.length_take, List.length_drop]; omega
  · rw [List.length_drop]; omega
  · rw [blks_snoc]
theorem st1_end {a : Nat} {D D' : List α} (h : St1 t a D D') (hn : D.length < a + 20) : ∃ P X, D' = P ++ X ++ [] ∧ P.length = a ∧ a + X.length = D.length ∧ St2 t 20 D (P ++ srt t X ++ []) := by
  obtain ⟨k, rfl, ha, rfl⟩ := h
  refine ⟨blks t 20 k D, D.drop (20 * k), by simp, blks_len 20 k D ha, by rw [List.length_drop]; omega, k + 1, by omega, ?_⟩
  rw [blks_snoc, List.take_of_length_le (by rw [List.length_drop]; omega), List.append_nil]
theorem st3_start {bs : Nat} {D D' : List α} (h : St2 t bs D D') : St3 t bs 0 D D' := by
  obtain ⟨K, hK, rfl⟩ := h
  exact ⟨0, K, by simp, by simp, by omega, by simp [blks]⟩
theorem take_two (bs : Nat) (E : List α) : srt t (E.take (2 * bs)) = mrg t (srt t (E.take bs)) (srt t ((E.drop bs).take bs)) := by
  rw [← srt_app, Nat.two_mul, List.take_add]
theorem st3_step {bs a : Nat} {D D' : List α} (hb : 0 < bs) (h : St3 t bs a D D') (hn : a + 2 * bs ≤ D.length) :
    ∃ P A B S, D' = P ++ A ++ B ++ S ∧ P.length = a ∧ A.length = bs ∧ B.length = bs ∧ D.length = a + bs + bs + S.length ∧ AscT t A ∧ AscT t B ∧ St3 t bs (a + 2 * bs) D (P ++ mrg t A B ++ S) := by
  obtain ⟨k, K, ha, haD, hK, rfl⟩ := h
  match K, hK with
  | 0, hK => simp at hK; omega
  | 1, hK => simp at hK; omega
  | K + 2, hK =>
    have e : bs * (K + 2) = bs + bs + bs * K := by rw [Nat.mul_add]; omega
    have hpl : (blks t (2 * bs) k D).length = a := by rw [blks_len _ _ _ (by omega), ← ha]
    have hSl : (blks t bs K (D.drop (a + 2 * bs))).length + (a + 2 * bs) = D.length := by
      have hall : ∀ (K : Nat) (E : List α), E.length ≤ bs * K → (blks t bs K E).length = E.length := by
        intro K
        induction K with
        | zero => intro E hE; simp at hE; subst hE; rfl
        | succ K ih =>
          intro E hE
          rw [Nat.mul_succ] at hE
          rw [blks, List.length_append, srt_len, ih _ (by rw [List.length_drop]; omega), List.length_take, List.length_drop]
          omega
      rw [hall K _ (by rw [List.length_drop]; omega), List.length_drop]
      omega
    refine ⟨blks t (2 * bs) k D, srt t ((D.drop a).take bs), srt t (((D.drop a).drop bs).take bs), blks t bs K (D.drop (a + 2 * bs)), ?_, hpl, ?_, ?_, by omega, srt_asc _, srt_asc _, k + 1, K, ?_, hn, ?_, ?_⟩
    · rw [blks, blks, List.drop_drop, List.drop_drop]
      simp only [List.append_assoc]
      rw [show a + bs + bs = a + 2 * bs by omega]
    · rw [srt_len, List.length_take, List.length_drop]; omega
    · rw [srt_len, List.length_take, List.length_drop, List.length_drop]; omega
    · rw [Nat.mul_succ]; omega
    · omega
    · rw [blks_snoc, ← ha, take_two]
theorem st3_last {bs a : Nat} {D D' : List α} (_hb : 0 < bs) (h : St3 t bs a D D') (hn : D.length < a + 2 * bs) (hm : a + bs < D.length) :
    ∃ P A B, D' = P ++ A ++ B ++ [] ∧ P.length = a ∧ A.length = bs ∧ a + bs + B.length = D.length ∧ AscT t A ∧ AscT t B ∧ St2 t (2 * bs) D (P ++ mrg t A B ++ []) := by
  obtain ⟨k, K, ha, haD, hK, rfl⟩ := h
  match K, hK with
  | 0, hK => simp at hK; omega
  | 1, hK => simp at hK; omega
  | K + 2, hK =>
    have hpl : (blks t (2 * bs) k D).length = a := by rw [blks_len _ _ _ (by omega), ← ha]
    refine ⟨blks t (2 * bs) k D, srt t ((D.drop a).take bs), srt t (((D.drop a).drop bs).take bs), ?_, hpl, ?_, ?_, srt_asc _, srt_asc _, k + 1, ?_, ?_⟩
    · rw [blks, blks, List.drop_drop, List.drop_drop, List.drop_of_length_le (show D.length ≤ a + bs + bs by omega), blks_nil]
      simp only [List.append_assoc, List.append_nil]
    · rw [srt_len, List.length_take, List.length_drop]; omega
    · rw [srt_len, List.length_take, List.length_drop, List.length_drop]; omega
    · rw [Nat.mul_succ]; omega
    · rw [blks_snoc, ← ha, take_two, List.append_nil]
theorem st3_end {bs a : Nat} {D D' : List α} (h : St3 t bs a D D') (hn : D.length ≤ a + bs) : St2 t (2 * bs) D D' := by
  obtain ⟨k, K, ha, haD, hK, rfl⟩ := h
  refine ⟨k + 1, by rw [Nat.mul_succ]; omega, ?_⟩
  have hdl : (D.drop a).length ≤ bs := by rw [List.length_drop]; omega
  rw [blks_snoc, ← ha, List.take_of_length_le (show (D.drop a).length ≤ 2 * bs by omega)]
  match K, hK with
  | 0, hK =>
    have : D.drop a = [] := List.length_eq_zero_iff.1 (by rw [List.length_drop]; simp at hK; omega)
    rw [this]
    rfl
  | K + 1, hK => rw [blks, List.take_of_length_le hdl, List.drop_of_length_le hdl, blks_nil, List.append_nil]
theorem st2_end {bs : Nat} {D D' : List α} (h : St2 t bs D D') (hn : D.length ≤ bs) : D' = srt t D := by
  obtain ⟨K, hK, rfl⟩ := h
  match K, hK with
  | 0, hK =>
    have : D = [] := List.length_eq_zero_iff.1 (by simp at hK; rw [hK]; rfl)
    rw [this]
    rfl
  | K + 1, hK => rw [blks, List.take_of_length_le hn, List.drop_of_length_le hn, blks_nil, List.append_nil]
end
end Go.Proofs.YtdcgminjamofmaaDoor
