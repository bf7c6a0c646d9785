/- Plain laws of replay: a list of jobs as a map from numbers; neighbours that can be exchanged; beginnings. -/
import Derived.Test.YtdcgminjamofmaaDoorReplay
namespace Go.Proofs.YtdcgminjamofmaaDoor

/-- The job of this number. -/
def findJ (l : List JobS) (n : Int) : Option JobS := l.find? (fun j => decide (j.job = n))
/-- What a record does to its job. -/
def jobStep (o : Option JobS) (r : Rec) : Nat ⊕ JobS :=
  if r.k = 1 then
    match o with
    | some _ => .inl 1
    | none => if r.v = 0 then .inl 3 else .inr ⟨r.j, r.v, 0, 0, 0, false⟩
  else match o with
    | none => .inl 2
    | some jb => doS jb r.k r.v
def Asc (l : List JobS) : Prop := l.Pairwise (fun a b => a.job < b.job)

theorem findJ_some {l : List JobS} {n : Int} {j : JobS} (h : findJ l n = some j) : j ∈ l ∧ j.job = n := by
  unfold findJ at h
  exact ⟨List.mem_of_find?_eq_some h, by simpa using List.find?_some h⟩
theorem findJ_none {l : List JobS} {n : Int} (h : findJ l n = none) : ∀ j ∈ l, j.job ≠ n := by
  unfold findJ at h
  intro j hj
  simpa using List.find?_eq_none.1 h j hj
theorem findJ_mem {l : List JobS} (h : Asc l) {j : JobS} (hj : j ∈ l) : findJ l j.job = some j := by
  induction l with
  | nil => cases hj
  | cons a r ih =>
    unfold Asc at h
    rw [List.pairwise_cons] at h
    unfold findJ
    rw [List.find?_cons]
    rcases List.mem_cons.1 hj with rfl | hj
    · simp
    · have := h.1 j hj
      have hne : ¬ (a.job = j.job) := by omega
      simp only [hne, decide_false]
      exact ih h.2 hj
/-- Two ascending lists with the same jobs by their numbers are one list. -/
theorem asc_ext : ∀ {a b : List JobS}, Asc a → Asc b → (∀ n, findJ a n = findJ b n) → a = b
  | [], [], _, _, _ => rfl
  | [], y :: b, _, hb, h => by
    have := h y.job
    rw [findJ_mem hb (by simp)] at this
    simp [findJ] at this
  | x :: a, [], ha, _, h => by
    have := h x.job
    rw [findJ_mem ha (by simp)] at this
    simp [findJ] at this
  | x :: a, y :: b, ha, hb, h => by
    have ha' := List.pairwise_cons.1 ha
    have hb' := List.pairwise_cons.1 hb
    have hx := h x.job
    rw [findJ_mem ha (by simp)] at hx
    have hy := h y.job
    rw [findJ_mem hb (by simp)] at hy
    have mx := (findJ_some hx.symm).1
    have my := (findJ_some hy).1
    have hxy : x = y := by
      rcases List.mem_cons.1 mx with e | e
      · exact e
      · rcases List.mem_cons.1 my with e' | e'
        · exact e'.symm
        · have := hb'.1 x e
          have := ha'.1 y e'
          omega
    subst hxy
    congr 1
    refine asc_ext ha'.2 hb'.2 (fun n => ?_)
    have hn := h n
    unfold findJ at hn ⊢
    by_cases e : x.job = n
    · rw [List.find?_eq_none.2, List.find?_eq_none.2]
      · intro q hq
        have := hb'.1 q hq
        simp
        omega
      · intro q hq
        have := ha'.1 q hq
        simp
        omega
    · rw [List.find?_cons, List.find?_cons] at hn
      simpa [e] using hn

theorem foundAt_find {l : List JobS} {m : Nat} (hj : JInv l m) (n : Int) : (foundAt l n (insPos l n) = true → findJ l n = l[insPos l n]?) ∧ (foundAt l n (insPos l n) = false → findJ l n = none) := by
  have hle := insPos_le l n
  constructor
  · intro h
    unfold foundAt at h
    split at h
    · rename_i j hg
      rw [hg]
      obtain ⟨hi, he⟩ := List.getElem?_eq_some_iff.1 hg
      have hjn : j.job = n := by simpa using h
      have := findJ_mem (l := l) hj.asc (j := j) (by rw [← he]; exact List.getElem_mem _)
      rw [hjn] at this
      exact this
    · cases h
  · intro h
    unfold findJ
    rw [List.find?_eq_none]
    intro q hq
    obtain ⟨i, hi, rfl⟩ := List.mem_iff_getElem.1 hq
    simp only [decide_eq_true_eq]
    rcases Nat.lt_trichotomy i (insPos l n) with hlt | heq | hgt
    · have := insPos_lt hi hlt
      omega
    · subst heq
      unfold foundAt at h
      rw [List.getElem?_eq_getElem hi] at h
      simpa using h
    · have h1 := insPos_at (l := l) (n := n) (by omega)
      have := hj.get (insPos l n) i (by omega) hi hgt
      omega

theorem findJ_cons (a : JobS) (l : List JobS) (n : Int) : findJ (a :: l) n = if a.job = n then some a else findJ l n := by
  unfold findJ
  rw [List.find?_cons]
  by_cases e : a.job = n <;> simp [e]
theorem findJ_append (a b : List JobS) (n : Int) : findJ (a ++ b) n = (findJ a n).or (findJ b n) := by
  unfold findJ
  rw [List.find?_append]

/-- next by the map: whether it can be done, and what the map is behind it. -/
theorem nextS_find {l : List JobS} {m : Nat} (hj : JInv l m) (now : Int) (r : Rec) :
    (r.ok = false ∨ r.t < now → nextS l now r = .inl 0) ∧
    (¬ (r.ok = false ∨ r.t < now) → (∀ p, jobStep (findJ l r.j) r = .inl p → nextS l now r = .inl p) ∧
      (∀ j', jobStep (findJ l r.j) r = .inr j' → ∃ l', nextS l now r = .inr l' ∧ ∀ n, findJ l' n = if n = r.j then some j' else findJ l n)) := by
  refine ⟨fun h => by unfold nextS; rw [if_pos h], fun h0 => ?_⟩
  have hff := foundAt_find hj r.j
  have hle := insPos_le l r.j
  have hok : r.ok = true := by cases hr : r.ok with | true => rfl | false => exact absurd (.inl hr) h0
  have hok' := okRec_iff.1 hok
  by_cases hk : r.k = 1
  · cases hf : foundAt l r.j (insPos l r.j)
    · have hn := hff.2 hf
      rw [hn]
      unfold jobStep nextS
      simp only [hk, if_true, if_neg h0, hf, Bool.false_eq_true, if_false]
      by_cases hv : r.v = 0
      · simp [hv]
      · simp only [hv, if_false]
        refine ⟨fun p hp => (by cases hp), fun j' hj' => ?_⟩
        cases hj'
        refine ⟨_, rfl, fun n => ?_⟩
        unfold insL
        rw [List.append_assoc, findJ_append, List.singleton_append, findJ_cons]
        have hsp : findJ l n = (findJ (l.take (insPos l r.j)) n).or (findJ (l.drop (insPos l r.j)) n) := by rw [← findJ_append, List.take_append_drop]
        by_cases e : n = r.j
        · subst e
          rw [if_pos rfl, if_pos rfl]
          rw [hn] at hsp
          cases ht : findJ (l.take (insPos l r.j)) r.j with
          | none => rfl
          | some x => rw [ht] at hsp; simp at hsp
        · rw [if_neg (fun h => e h.symm), if_neg e, hsp]
    · have hn := hff.1 hf
      unfold foundAt at hf
      cases hg : l[insPos l r.j]? with
      | none => rw [hg] at hf; cases hf
      | some jb =>
        rw [hn, hg]
        unfold jobStep nextS
        rw [if_neg h0, if_pos hk]
        have hf' : foundAt l r.j (insPos l r.j) = true := by unfold foundAt; exact hf
        rw [if_pos hf', if_pos hk]
        exact ⟨fun p hp => (by cases hp; rfl), fun j' hj' => (by cases hj')⟩
  · cases hf : foundAt l r.j (insPos l r.j)
    · have hn := hff.2 hf
      rw [hn]
      unfold jobStep nextS
      rw [if_neg h0, if_neg hk, if_neg hk, if_neg (by simp [hf])]
      exact ⟨fun p hp => (by cases hp; rfl), fun j' hj' => (by cases hj')⟩
    · have hn := hff.1 hf
      cases hg : l[insPos l r.j]? with
      | none => unfold foundAt at hf; rw [hg] at hf; cases hf
      | some jb =>
        have e1 : jobStep (some jb) r = doS jb r.k r.v := by unfold jobStep; rw [if_neg hk]
        rw [hn, hg, e1]
        unfold nextS
        rw [if_neg h0, if_neg hk, if_pos hf, hg]
        dsimp only
        cases hd : doS jb r.k r.v with
        | inl p => exact ⟨fun q hq => (by cases hq; rfl), fun j' hj' => (by cases hj')⟩
        | inr j1 =>
          refine ⟨fun q hq => (by cases hq), fun j' hj' => ?_⟩
          cases hj'
          obtain ⟨hil, hje⟩ := List.getElem?_eq_some_iff.1 hg
          have hjob : jb.job = r.j := by
            have := findJ_some (hn.trans hg)
            exact this.2
          have hdo := doS_ok (by omega) (by rw [← hje]; exact hj.inv _ (List.getElem_mem _)) hd
          refine ⟨_, rfl, fun n => ?_⟩
          have hset : l.set (insPos l r.j) j1 = l.take (insPos l r.j) ++ j1 :: l.drop (insPos l r.j + 1) := List.set_eq_take_append_cons_drop ▸ (by simp [hil])
          have hl0 : l = l.take (insPos l r.j) ++ jb :: l.drop (insPos l r.j + 1) := by
            rw [← hje, ← List.drop_eq_getElem_cons hil, List.take_append_drop]
          rw [hset]
          conv => rhs; rw [hl0]
          rw [findJ_append, findJ_append, findJ_cons, findJ_cons, hdo.2, hjob]
          by_cases e : n = r.j
          · subst e
            rw [if_pos rfl, if_pos rfl]
            cases ht : findJ (l.take (insPos l r.j)) r.j with
            | none => rfl
            | some x =>
              exfalso
              have hx := findJ_some ht
              obtain ⟨q, hq, hqe⟩ := List.mem_iff_getElem.1 hx.1
              simp only [List.length_take] at hq
              rw [List.getElem_take] at hqe
              have := insPos_lt (l := l) (n := r.j) (k := q) (by omega) (by omega)
              rw [hqe] at this
              omega
          · rw [if_neg (fun h => e h.symm), if_neg e, if_neg (fun h => e h.symm)]

/-- Two records of different jobs at one time, both done: they can be done the other way round, and come to the same. -/
theorem next_comm {l l1 l2 : List JobS} {m : Nat} {now : Int} {a b : Rec} (hj : JInv l m) (hne : a.j ≠ b.j) (ht : a.t = b.t) (h1 : nextS l now a = .inr l1) (h2 : nextS l1 a.t b = .inr l2) :
    ∃ l1', nextS l now b = .inr l1' ∧ nextS l1' b.t a = .inr l2 := by
  have hj1 := nextS_inv hj h1
  have hj2 := nextS_inv hj1 h2
  have fa := nextS_find hj now a
  have fb := nextS_find hj1 a.t b
  have ha0 : ¬ (a.ok = false ∨ a.t < now) := fun h => by rw [fa.1 h] at h1; cases h1
  have hb0 : ¬ (b.ok = false ∨ b.t < a.t) := fun h => by rw [fb.1 h] at h2; cases h2
  obtain ⟨fa1, fa2⟩ := fa.2 ha0
  obtain ⟨fb1, fb2⟩ := fb.2 hb0
  cases ea : jobStep (findJ l a.j) a with
  | inl p => rw [fa1 p ea] at h1; cases h1
  | inr ja =>
    obtain ⟨l1x, e1, f1⟩ := fa2 ja ea
    rw [e1] at h1
    cases h1
    have hbl : findJ l1 b.j = findJ l b.j := by rw [f1, if_neg (fun h => hne h.symm)]
    cases eb : jobStep (findJ l1 b.j) b with
    | inl p => rw [fb1 p eb] at h2; cases h2
    | inr jb =>
      obtain ⟨l2x, e2, f2⟩ := fb2 jb eb
      rw [e2] at h2
      cases h2
      rw [hbl] at eb
      have gb := nextS_find hj now b
      have gb0 : ¬ (b.ok = false ∨ b.t < now) := by
        intro h
        rcases h with h | h
        · exact hb0 (.inl h)
        · exact ha0 (.inr (by omega))
      obtain ⟨l1', e3, f3⟩ := (gb.2 gb0).2 jb eb
      have hj1' := nextS_inv hj e3
      have ga := nextS_find hj1' b.t a
      have ga0 : ¬ (a.ok = false ∨ a.t < b.t) := by
        intro h
        rcases h with h | h
        · exact ha0 (.inl h)
        · omega
      have hal : findJ l1' a.j = findJ l a.j := by rw [f3, if_neg hne]
      obtain ⟨l2', e4, f4⟩ := (ga.2 ga0).2 ja (by rw [hal]; exact ea)
      refine ⟨l1', e3, ?_⟩
      rw [e4]
      congr 1
      refine asc_ext (nextS_inv hj1' e4).asc hj2.asc (fun n => ?_)
      rw [f4, f2, f3, f1]
      by_cases e : n = a.j
      · have e' : ¬ (n = b.j) := fun h => hne (e.symm.trans h)
        rw [if_pos e, if_neg e', if_pos e]
      · by_cases e' : n = b.j
        · rw [if_neg e, if_pos e', if_pos e']
        · rw [if_neg e, if_neg e', if_neg e', if_neg e]

/-- How many are done is never less than where it begins, nor more than there are. -/
theorem replayS_bd (l : List JobS) (now : Int) (i : Nat) (a : List Rec) : i ≤ (replayS l now i a).2.1 ∧ (replayS l now i a).2.1 ≤ i + a.length := by
  induction a generalizing l now i with
  | nil => simp [replayS]
  | cons r a ih =>
    unfold replayS
    cases h : nextS l now r with
    | inl p => simp
    | inr l' => have := ih l' r.t (i + 1); simp only [List.length_cons]; omega
/-- The jobs behind a replay are in order. -/
theorem replayS_inv (l : List JobS) (now : Int) (i : Nat) (a : List Rec) {m : Nat} (hj : JInv l m) : JInv (replayS l now i a).1 (m + a.length) := by
  induction a generalizing l now i m with
  | nil => simpa [replayS] using hj
  | cons r a ih =>
    unfold replayS
    cases h : nextS l now r with
    | inl p => exact ⟨hj.asc, hj.inv, by have := hj.len; simp only [List.length_cons]; omega⟩
    | inr l' =>
      have := ih l' r.t (i + 1) (nextS_inv hj h)
      simp only [List.length_cons]
      rw [show m + (a.length + 1) = m + 1 + a.length by omega]
      exact this
theorem replay_inv (a : List Rec) : JInv (replay a).1 a.length := by
  have := replayS_inv [] 0 0 a (m := 0) ⟨.nil, by simp, by simp⟩
  rwa [Nat.zero_add] at this
theorem errNo_pos {p : Nat} (h : p < 5) : errNo p ≠ 0 := by
  match p, h with
  | 0, _ => decide
  | 1, _ => decide
  | 2, _ => decide
  | 3, _ => decide
  | 4, _ => decide
/-- An error is told exactly if not all are done. -/
theorem replayS_err (l : List JobS) (now : Int) (i : Nat) (a : List Rec) : (replayS l now i a).2.2 = 0 ↔ (replayS l now i a).2.1 = i + a.length := by
  induction a generalizing l now i with
  | nil => simp [replayS]
  | cons r a ih =>
    unfold replayS
    cases h : nextS l now r with
    | inl p =>
      have := errNo_pos (nextS_err h)
      simp [this]
    | inr l' =>
      have := ih l' r.t (i + 1)
      simp only [List.length_cons]
      rw [this]
      omega
/-- The replay of a beginning is the beginning of the replay. -/
theorem replayS_take (l : List JobS) (now : Int) (i : Nat) (a : List Rec) (m : Nat) (hm : m ≤ a.length) :
    (i + m ≤ (replayS l now i a).2.1 → (replayS l now i (a.take m)).2 = (i + m, 0)) ∧ ((replayS l now i a).2.1 < i + m → replayS l now i (a.take m) = replayS l now i a) := by
  induction a generalizing l now i m with
  | nil =>
    simp at hm
    subst hm
    simp [replayS]
  | cons r a ih =>
    cases m with
    | zero =>
      have := (replayS_bd l now i (r :: a)).1
      simp only [List.take_zero, Nat.add_zero]
      exact ⟨fun _ => by simp [replayS], fun h => by omega⟩
    | succ m =>
      rw [List.take_succ_cons]
      unfold replayS
      cases h : nextS l now r with
      | inl p =>
        exact ⟨fun h => by dsimp only at h; omega, fun _ => rfl⟩
      | inr l' =>
        have := ih l' r.t (i + 1) m (by simpa using hm)
        dsimp only
        rw [show i + (m + 1) = i + 1 + m by omega]
        exact this
/-- Neighbours of different jobs at one time. -/
theorem replayS_swap (l : List JobS) (now : Int) (i : Nat) (x y : Rec) (pre post : List Rec) {m : Nat} (hj : JInv l m) (hne : x.j ≠ y.j) (ht : x.t = y.t) :
    let A := replayS l now i (pre ++ x :: y :: post)
    let B := replayS l now i (pre ++ y :: x :: post)
    (i + pre.length + 1 < A.2.1 ∨ i + pre.length + 1 < B.2.1 → A = B) ∧ (A.2.1 < i + pre.length ↔ B.2.1 < i + pre.length) := by
  induction pre generalizing l now i m with
  | nil =>
    simp only [List.nil_append, List.length_nil, Nat.add_zero]
    have b1 := (replayS_bd l now i (x :: y :: post)).1
    have b2 := (replayS_bd l now i (y :: x :: post)).1
    refine ⟨?_, by omega⟩
    have key : ∀ {a b : Rec}, a.j ≠ b.j → a.t = b.t → i + 1 < (replayS l now i (a :: b :: post)).2.1 → replayS l now i (a :: b :: post) = replayS l now i (b :: a :: post) := by
      intro a b hne ht h
      cases h1 : nextS l now a with
      | inl p =>
        unfold replayS at h
        rw [h1] at h
        dsimp only at h
        omega
      | inr l1 =>
        cases h2 : nextS l1 a.t b with
        | inl p =>
          unfold replayS at h
          rw [h1] at h
          dsimp only at h
          unfold replayS at h
          rw [h2] at h
          dsimp only at h
          omega
        | inr l2 =>
          obtain ⟨l1', e1, e2⟩ := next_comm hj hne ht h1 h2
          rw [ht] at h2
          simp only [replayS, h1, h2, e1, e2, ht]
    intro h
    rcases h with h | h
    · exact key hne ht h
    · exact (key (fun e => hne e.symm) ht.symm h).symm
  | cons r pre ih =>
    simp only [List.cons_append, List.length_cons]
    unfold replayS
    cases h : nextS l now r with
    | inl p =>
      dsimp only
      exact ⟨fun h => by omega, by omega⟩
    | inr l' =>
      dsimp only
      have := ih l' r.t (i + 1) (nextS_inv hj h)
      dsimp only at this
      rw [show i + (pre.length + 1) = i + 1 + pre.length by omega]
      exact this
end Go.Proofs.YtdcgminjamofmaaDoor
