/- Plain laws: the replay by a table of four jobs is the replay. -/
import Derived.Test.YtdcgminjamofmaaDoorPlain
import Derived.Test.YtdcgminjamofmaaDoorApart
namespace Go.Proofs.YtdcgminjamofmaaDoor

def tabNo : Nat → Int
  | 0 => 1
  | 1 => 2
  | 2 => 300
  | _ => 65535
def ix (j : Int) : Nat := if j = 1 then 0 else if j = 2 then 1 else if j = 300 then 2 else 3
def inTab (j : Int) : Prop := j = 1 ∨ j = 2 ∨ j = 300 ∨ j = 65535
theorem ix_lt (j : Int) : ix j < 4 := by unfold ix; split; omega; split; omega; split <;> omega
theorem tab_ix {j : Int} (h : inTab j) : ∀ i, i < 4 → (tabNo i = j ↔ i = ix j) := by
  intro i hi
  match i, hi with
  | 0, _ => rcases h with rfl | rfl | rfl | rfl <;> decide
  | 1, _ => rcases h with rfl | rfl | rfl | rfl <;> decide
  | 2, _ => rcases h with rfl | rfl | rfl | rfl <;> decide
  | 3, _ => rcases h with rfl | rfl | rfl | rfl <;> decide
theorem inTab_no (i : Nat) : inTab (tabNo i) := by
  unfold inTab
  match i with
  | 0 => exact .inl rfl
  | 1 => exact .inr (.inl rfl)
  | 2 => exact .inr (.inr (.inl rfl))
  | n + 3 => exact .inr (.inr (.inr rfl))
theorem ix_no {i : Nat} (h : i < 4) : ix (tabNo i) = i := ((tab_ix (inTab_no i) i h).1 rfl).symm

abbrev Tab := List (Option JobS)
def repT (T : Tab) (i : Nat) : List Rec → Tab × Nat × Int
  | [] => (T, i, 0)
  | r :: rs => match jobStep (T.getD (ix r.j) none) r with
    | .inl p => (T, i, errNo p)
    | .inr j' => repT (T.set (ix r.j) (some j')) (i + 1) rs
def T0 : Tab := [none, none, none, none]
def outT (T : Tab) : List JobS := T.filterMap id

/-- The table holds the jobs of the list. -/
def TabIs (T : Tab) (l : List JobS) : Prop := T.length = 4 ∧ (∀ i, i < 4 → T.getD i none = findJ l (tabNo i)) ∧ ∀ j ∈ l, inTab j.job

theorem out4 {t0 t1 t2 t3 : Option JobS} (g0 : ∀ j, t0 = some j → j.job = 1) (g1 : ∀ j, t1 = some j → j.job = 2) (g2 : ∀ j, t2 = some j → j.job = 300) (g3 : ∀ j, t3 = some j → j.job = 65535) :
    Asc (outT [t0, t1, t2, t3]) ∧ findJ (outT [t0, t1, t2, t3]) 1 = t0 ∧ findJ (outT [t0, t1, t2, t3]) 2 = t1 ∧ findJ (outT [t0, t1, t2, t3]) 300 = t2 ∧ findJ (outT [t0, t1, t2, t3]) 65535 = t3 := by
  unfold Asc findJ outT
  cases t0 <;> cases t1 <;> cases t2 <;> cases t3 <;> simp_all
theorem outT_eq {T : Tab} {l : List JobS} (h : TabIs T l) (ha : Asc l) : outT T = l := by
  obtain ⟨h4, hT, hin⟩ := h
  match T, h4 with
  | [t0, t1, t2, t3], _ =>
    have e0 : t0 = findJ l 1 := hT 0 (by omega)
    have e1 : t1 = findJ l 2 := hT 1 (by omega)
    have e2 : t2 = findJ l 300 := hT 2 (by omega)
    have e3 : t3 = findJ l 65535 := hT 3 (by omega)
    have g : ∀ {n : Int} {o : Option JobS}, o = findJ l n → ∀ j, o = some j → j.job = n := fun e j hj => (findJ_some (e ▸ hj)).2
    have g0 := g e0
    have g1 := g e1
    have g2 := g e2
    have g3 := g e3
    have hfn : ∀ n, ¬ inTab n → findJ l n = none := by
      intro n hn
      cases hf : findJ l n with
      | none => rfl
      | some j =>
        have := findJ_some hf
        exact absurd (this.2 ▸ hin j this.1) hn
    have o4 := out4 g0 g1 g2 g3
    refine asc_ext o4.1 ha ?_
    · intro n
      by_cases hn : inTab n
      · rcases hn with rfl | rfl | rfl | rfl
        · rw [o4.2.1, e0]
        · rw [o4.2.2.1, e1]
        · rw [o4.2.2.2.1, e2]
        · rw [o4.2.2.2.2, e3]
      · rw [hfn n hn]
        have hn' : ¬ (n = 1) ∧ ¬ (n = 2) ∧ ¬ (n = 300) ∧ ¬ (n = 65535) := ⟨fun h => hn (.inl h), fun h => hn (.inr (.inl h)), fun h => hn (.inr (.inr (.inl h))), fun h => hn (.inr (.inr (.inr h)))⟩
        unfold findJ outT
        rw [List.find?_eq_none]
        intro j hj
        have : j.job = 1 ∨ j.job = 2 ∨ j.job = 300 ∨ j.job = 65535 := by
          simp only [List.mem_filterMap, id] at hj
          obtain ⟨o, ho, rfl⟩ := hj
          simp only [List.mem_cons, List.not_mem_nil, or_false] at ho
          rcases ho with h | h | h | h
          · exact .inl (g0 j h.symm)
          · exact .inr (.inl (g1 j h.symm))
          · exact .inr (.inr (.inl (g2 j h.symm)))
          · exact .inr (.inr (.inr (g3 j h.symm)))
        simp only [decide_eq_true_eq]
        omega

def Mono : Int → List Rec → Prop
  | _, [] => True
  | now, r :: rs => now ≤ r.t ∧ Mono r.t rs

theorem repT_eq {T : Tab} {l : List JobS} {now : Int} {i m : Nat} {a : List Rec} (h : TabIs T l) (hj : JInv l m) (hm : Mono now a) (hok : ∀ r ∈ a, r.ok = true ∧ inTab r.j) :
    replayS l now i a = (outT (repT T i a).1, (repT T i a).2) := by
  induction a generalizing T l now i m with
  | nil => unfold replayS repT; rw [outT_eq h hj.asc]
  | cons r a ih =>
    obtain ⟨hr, hin⟩ := hok r (by simp)
    have hx := h.2.1 (ix r.j) (ix_lt _)
    have hno : tabNo (ix r.j) = r.j := (tab_ix hin _ (ix_lt _)).2 rfl
    rw [hno] at hx
    have hf := (nextS_find hj now r).2 (by
      intro q
      rcases q with q | q
      · rw [hr] at q; cases q
      · have := hm.1; omega)
    unfold replayS repT
    rw [hx]
    cases hs : jobStep (findJ l r.j) r with
    | inl p =>
      rw [hf.1 p hs]
      dsimp only
      rw [outT_eq h hj.asc]
    | inr j' =>
      obtain ⟨l', e, hl'⟩ := hf.2 j' hs
      rw [e]
      dsimp only
      have hj' := nextS_inv hj e
      refine ih ?_ hj' hm.2 (fun q hq => hok q (by simp [hq]))
      refine ⟨by rw [List.length_set]; exact h.1, fun k hk => ?_, fun j hjm => ?_⟩
      · rw [hl']
        by_cases hki : k = ix r.j
        · subst hki
          rw [hno, if_pos rfl, List.getD, List.getElem?_set_self (by rw [h.1]; exact ix_lt _)]
          rfl
        · rw [if_neg (fun hh => hki ((tab_ix hin k hk).1 hh)), List.getD, List.getElem?_set_ne (fun hh => hki hh.symm)]
          exact h.2.1 k hk
      · have := findJ_mem hj'.asc hjm
        rw [hl'] at this
        by_cases e' : j.job = r.j
        · rw [e']; exact hin
        · rw [if_neg e'] at this
          exact h.2.2 j (findJ_some this).1
theorem ofL_mono (now : Int) (l : List RS) : Mono now (ofL now l) := by
  induction l generalizing now with
  | nil => exact trivial
  | cons x l ih => exact ⟨by show now ≤ now + sq x; have := sq_bd x; omega, ih _⟩
theorem jobNo_in (j : Int) : inTab (jobNo j) := by
  unfold jobNo inTab
  split
  · exact .inl rfl
  split
  · exact .inr (.inl rfl)
  split
  · exact .inr (.inr (.inl rfl))
  · exact .inr (.inr (.inr rfl))
theorem ofL_in (now : Int) (l : List RS) : ∀ r ∈ ofL now l, inTab r.j := by
  induction l generalizing now with
  | nil => intro r hr; cases hr
  | cons x l ih =>
    intro r hr
    simp only [ofL, List.mem_cons] at hr
    rcases hr with rfl | hr
    · exact jobNo_in x.j
    · exact ih _ r hr
theorem replay_tab (l : List RS) (hf : ∀ r ∈ l, r.fit) : replay (ofS l) = (outT (repT T0 0 (ofS l)).1, (repT T0 0 (ofS l)).2) :=
  repT_eq (m := 0) (now := 0) ⟨rfl, fun i hi => (match i, hi with | 0, _ => rfl | 1, _ => rfl | 2, _ => rfl | 3, _ => rfl), by simp⟩ ⟨.nil, by simp, by simp⟩ (ofL_mono _ _) (fun r hr => ⟨(ofS_all l hf r hr).2, ofL_in _ _ r hr⟩)
end Go.Proofs.YtdcgminjamofmaaDoor
