/- Replay as a function of plain data, and journals.next against it. -/
import Derived.Test.YtdcgminjamofmaaDoorNext3
import Derived.Test.YtdcgminjamofmaaDoorNum
namespace Go.Proofs.YtdcgminjamofmaaDoor
open Go.RowKit

def nextS (l : List JobS) (now : Int) (r : Rec) : Nat ⊕ List JobS :=
  if r.ok = false ∨ r.t < now then .inl 0
  else if r.k = 1 then
    if foundAt l r.j (insPos l r.j) = true then .inl 1 else if r.v = 0 then .inl 3 else .inr (insL l (insPos l r.j) ⟨r.j, r.v, 0, 0, 0, false⟩)
  else if foundAt l r.j (insPos l r.j) = true then
    match l[insPos l r.j]? with
    | none => .inl 2
    | some jb => match doS jb r.k r.v with
      | .inl p => .inl p
      | .inr j' => .inr (l.set (insPos l r.j) j')
  else .inl 2

/-- Ascending, in order, not many. -/
structure JInv (l : List JobS) (m : Nat) : Prop where
  asc : l.Pairwise (fun a b => a.job < b.job)
  inv : ∀ q ∈ l, q.inv
  len : l.length ≤ m

theorem JInv.get {l : List JobS} {m : Nat} (h : JInv l m) : ∀ i k (hi : i < l.length) (hk : k < l.length), i < k → l[i].job < l[k].job :=
  fun i k hi hk hik => List.pairwise_iff_getElem.1 h.asc i k hi hk hik

def NextRet (w0 w : World) (po pn base : Nat) (s : Nat → Addr) (t : Int) : Nat ⊕ List JobS → Ending → World → Prop
  | .inl p, e, w' => RetBelow (.iface 125 (.pointer (some (s p)))) w e w'
  | .inr l', e, w' => NextDone w0 po pn base l' t e w'

theorem next_any (w0 w : World) (po pn base : Nat) (v : Value) (l : List JobS) (now : Int) (s : Nat → Addr) (r : Rec) (hin : NextIn w0 w po pn base v l now) (hS : Sent w0 s)
    (hk : 0 ≤ r.k ∧ r.k ≤ 255) (m : Nat) (hj : JInv l m) (hm : m ≤ 1000000000) :
    Calls Tryd.prog 24 #[.pointer (some ⟨po, 0, none⟩), .pointer (some ⟨pn, 0, none⟩), .agg #[.int .i64 r.t, .int .u8 r.k, .int .i64 r.j, .int .i64 r.v]] w (NextRet w0 w po pn base s r.t (nextS l now r)) := by
  have hl : l.length ≤ 1000000000 := by have := hj.len; omega
  cases hok : r.ok
  · have e : nextS l now r = .inl 0 := by unfold nextS; rw [if_pos (.inl hok)]
    rw [e]
    exact next_arg1 w po pn r hk _ (hS.below hin.old).v0 hok
  by_cases ht : r.t < now
  · have e : nextS l now r = .inl 0 := by unfold nextS; rw [if_pos (.inr ht)]
    rw [e]
    exact next_early w0 w po pn base v l now s r hin hS hk hok ht
  have h0 : ¬ (r.ok = false ∨ r.t < now) := by rw [hok]; simp; omega
  by_cases hk1 : r.k = 1
  · cases hf : foundAt l r.j (insPos l r.j)
    · by_cases hx : r.v = 0
      · have e : nextS l now r = .inl 3 := by unfold nextS; rw [if_neg h0, if_pos hk1, if_neg (by simp [hf]), if_pos hx]
        rw [e]
        exact next_zero w0 w po pn base v l now s r hin hS hk hok (by omega) hl hj.get hk1 (by simpa using hx) hf
      · have e : nextS l now r = .inr (insL l (insPos l r.j) ⟨r.j, r.v, 0, 0, 0, false⟩) := by unfold nextS; rw [if_neg h0, if_pos hk1, if_neg (by simp [hf]), if_neg hx]
        rw [e]
        exact next_order w0 w po pn base v l now r hin hk hok (by omega) hl hj.get hk1 (by simpa using hx) hf
    · have e : nextS l now r = .inl 1 := by unfold nextS; rw [if_neg h0, if_pos hk1, if_pos hf]
      rw [e]
      exact next_there w0 w po pn base v l now s r hin hS hk hok (by omega) hl hj.get hk1 hf
  · have hb1 : (r.k == 1) = false := by simpa using hk1
    have hb2 : (r.k != 1) = true := by simpa using hk1
    have hok' := okRec_iff.1 hok
    cases hf : foundAt l r.j (insPos l r.j)
    · have e : nextS l now r = .inl 2 := by unfold nextS; rw [if_neg h0, if_neg hk1, if_neg (by simp [hf])]
      rw [e]
      exact next_none w0 w po pn base v l now s r hin hS hk hok (by omega) hl hj.get hb1 hb2 hf
    · cases hg : l[insPos l r.j]? with
      | none => unfold foundAt at hf; rw [hg] at hf; cases hf
      | some jb =>
        cases hd : doS jb r.k r.v with
        | inl p =>
          have e : nextS l now r = .inl p := by unfold nextS; rw [if_neg h0, if_neg hk1, if_pos hf, hg]; simp only [hd]
          rw [e]
          exact next_do_err w0 w po pn base v l now s r hin hS hk hok (by omega) hl hj.get hb1 hb2 (by omega) jb hg hj.inv hf p hd
        | inr j' =>
          have e : nextS l now r = .inr (l.set (insPos l r.j) j') := by unfold nextS; rw [if_neg h0, if_neg hk1, if_pos hf, hg]; simp only [hd]
          rw [e]
          exact next_do_ok w0 w po pn base v l now r hin hk hok (by omega) hl hj.get hb1 hb2 (by omega) jb hg hj.inv hf j' hd

/-! ### plain facts -/
theorem doS_ok {jb j' : JobS} {k v : Int} (hv : 0 ≤ v) (hi : jb.inv) (h : doS jb k v = .inr j') : j'.inv ∧ j'.job = jb.job := by
  obtain ⟨J, C, P, F, U, D⟩ := jb
  obtain ⟨a1, a2, a3, a4, a5, a6⟩ := hi
  dsimp only at *
  unfold doS at h
  dsimp only at h
  repeat' split at h
  all_goals cases h
  all_goals refine ⟨⟨a1, a2, ?_, ?_, ?_, ?_⟩, rfl⟩ <;> dsimp only <;> omega

theorem insPos_lt {l : List JobS} {n : Int} {k : Nat} (hk : k < l.length) (h : k < insPos l n) : l[k].job < n := by
  unfold insPos at h
  induction l generalizing k with
  | nil => simp at hk
  | cons a r ih =>
    by_cases ha : a.job < n
    · rw [List.takeWhile_cons_of_pos (by simpa using ha), List.length_cons] at h
      cases k with
      | zero => exact ha
      | succ k => exact ih (by simpa using hk) (by omega)
    · rw [List.takeWhile_cons_of_neg (by simpa using ha)] at h
      simp at h
theorem insPos_le (l : List JobS) (n : Int) : insPos l n ≤ l.length := (List.takeWhile_prefix _).length_le
theorem insPos_at {l : List JobS} {n : Int} (h : insPos l n < l.length) : n ≤ l[insPos l n].job := by
  unfold insPos at h ⊢
  induction l with
  | nil => simp at h
  | cons a r ih =>
    by_cases ha : a.job < n
    · have e : (List.takeWhile (fun j => decide (j.job < n)) (a :: r)).length = (List.takeWhile (fun j => decide (j.job < n)) r).length + 1 := by rw [List.takeWhile_cons_of_pos (by simpa using ha), List.length_cons]
      have h' := h
      rw [e] at h'
      have := ih (by simpa using h')
      simp only [e, List.getElem_cons_succ]
      exact this
    · have e : (List.takeWhile (fun j => decide (j.job < n)) (a :: r)).length = 0 := by rw [List.takeWhile_cons_of_neg (by simpa using ha)]; rfl
      simp only [e, List.getElem_cons_zero]
      omega

theorem nextS_inv {l l' : List JobS} {now : Int} {r : Rec} {m : Nat} (hj : JInv l m) (h : nextS l now r = .inr l') : JInv l' (m + 1) := by
  unfold nextS at h
  split at h
  · cases h
  rename_i h0
  have hok : r.ok = true := by cases hr : r.ok with | true => rfl | false => exact absurd (.inl hr) h0
  have hok' := okRec_iff.1 hok
  split at h
  · split at h
    · cases h
    rename_i hf
    split at h
    · cases h
    rename_i hx
    cases h
    have hle := insPos_le l r.j
    refine ⟨?_, ?_, ?_⟩
    · unfold insL
      rw [List.append_assoc, List.pairwise_append]
      refine ⟨hj.asc.sublist (List.take_sublist _ _), ?_, ?_⟩
      · rw [List.singleton_append, List.pairwise_cons]
        refine ⟨fun b hb => ?_, hj.asc.sublist (List.drop_sublist _ _)⟩
        obtain ⟨q, hq, rfl⟩ := List.mem_iff_getElem.1 hb
        rw [List.getElem_drop]
        simp only [List.length_drop] at hq
        have hat := insPos_at (l := l) (n := r.j) (by omega)
        have hne : l[insPos l r.j].job ≠ r.j := fun e => hf (by unfold foundAt; rw [List.getElem?_eq_getElem (by omega)]; simpa using e)
        rcases Nat.eq_zero_or_pos q with h0 | h0
        · subst h0
          simp only [Nat.add_zero]
          omega
        · have := hj.get (insPos l r.j) (insPos l r.j + q) (by omega) (by omega) (by omega)
          show r.j < _
          omega
      · intro a ha b hb
        obtain ⟨q, hq, rfl⟩ := List.mem_iff_getElem.1 ha
        simp only [List.length_take] at hq
        rw [List.getElem_take]
        have h1 := insPos_lt (l := l) (n := r.j) (k := q) (by omega) (by omega)
        rw [List.singleton_append, List.mem_cons] at hb
        rcases hb with rfl | hb
        · exact h1
        · obtain ⟨q', hq', rfl⟩ := List.mem_iff_getElem.1 hb
          rw [List.getElem_drop]
          simp only [List.length_drop] at hq'
          exact hj.get q (insPos l r.j + q') (by omega) (by omega) (by omega)
    · intro q hq
      unfold insL at hq
      simp only [List.mem_append, List.mem_singleton] at hq
      rcases hq with (hq | rfl) | hq
      · exact hj.inv q (List.mem_of_mem_take hq)
      · refine ⟨by dsimp only; omega, by dsimp only; omega, ?_, ?_, ?_, ?_⟩ <;> dsimp only <;> omega
      · exact hj.inv q (List.mem_of_mem_drop hq)
    · have := hj.len
      unfold insL
      simp
      omega
  · rename_i hk1
    split at h
    · split at h
      · cases h
      · rename_i jb hg
        split at h
        · cases h
        · rename_i j' hd
          cases h
          obtain ⟨hil, hje⟩ := List.getElem?_eq_some_iff.1 hg
          have hdo := doS_ok (by omega) (by rw [← hje]; exact hj.inv _ (List.getElem_mem _)) hd
          refine ⟨?_, ?_, by rw [List.length_set]; have := hj.len; omega⟩
          · rw [List.pairwise_iff_getElem]
            intro a b ha hb hab
            rw [List.length_set] at ha hb
            have hjob : ∀ q (hq : q < l.length), ((l.set (insPos l r.j) j')[q]'(by rw [List.length_set]; exact hq)).job = l[q].job := by
              intro q hq
              rw [List.getElem_set]
              split
              · rename_i e
                subst e
                rw [hdo.2, hje]
              · rfl
            rw [hjob a ha, hjob b hb]
            exact hj.get a b ha hb hab
          · intro q hq
            rcases List.mem_or_eq_of_mem_set hq with hq | rfl
            · exact hj.inv q hq
            · exact hdo.1
    · cases h
end Go.Proofs.YtdcgminjamofmaaDoor
