/- Joined texts. Bindings in plain Lean: what the bits make (matched leaves that do not cross), the folios, the loose leaves, the sections. No program in sight. · Sections in plain Lean: what is left of folios and loose leaves that lie in no folio has exactly the sections. No program in sight. · Words and laws of no program: slices that read as lists, rows of one's own, append, copy. No condition. · Blocks of a walk's own, and what stays of them. No program is named; no condition. · Contracts of slices.Clone and slices.Clip at the element types of the engine. -/
import Derived.Lib.Slices
import Derived.WalkKit
import Derived.WalkSpells
import Derived.WalkLawsBesides
import Derived.Lib.Hide
import Derived.Maps.AppendAt
import Derived.Deep.AppendLies
import Derived.Lib.AppendZeros
import Derived.Laws.CopyOwn
import Derived.Deep.QuietTactic
import Derived.BigQuiet
import Derived.BigRegion
import Derived.StillTailTactics
import Derived.Deep.RegionLaw
import Derived.Deep.RegionWith
import Derived.Deep.DeepCutAuto
import Derived.Deep.CutBlock
import Derived.Test.YtdkijcmhjeaofaaGreatDoorRows
import Derived.Deep.MidRow
import Derived.Deep.Upon
import Derived.Laws.Cover3
namespace Go.Proofs.YtdkijcmhjeaofaaGreatDoor

/-- The partner of each leaf, and the leaves that wait, the last one first. -/
structure Bo where
  f : Nat → Option Nat
  op : List Nat
def Bo.start : Bo := ⟨fun _ => none, []⟩
def put2 (f : Nat → Option Nat) (i k : Nat) : Nat → Option Nat := fun n => if n = i then some k else if n = k then some i else f n
def Bo.step (s : Bo) (i d : Nat) : Bo := if d ≤ 1 then ⟨s.f, i :: s.op⟩ else if d = 2 then (match s.op with
  | [] => s
  | k :: r => ⟨put2 s.f i k, r⟩) else s
def digit (bits i : Nat) : Nat := bits >>> (2 * i) % 4
def Bo.run (bits : Nat) : Nat → Bo
  | 0 => Bo.start
  | i + 1 => (Bo.run bits i).step i (digit bits i)
/-- What always holds of it. -/
structure Bo.Ok (s : Bo) (i : Nat) : Prop where
  lt : ∀ a b, s.f a = some b → a < i ∧ b < i ∧ a ≠ b ∧ s.f b = some a
  opn : ∀ k ∈ s.op, k < i ∧ s.f k = none
  desc : s.op.Pairwise (· > ·)
  out : ∀ a b k, s.f a = some b → a < b → k ∈ s.op → ¬ (a < k ∧ k < b)
  cross : ∀ a b c d, s.f a = some b → s.f c = some d → a < b → c < d → a < c → c < b → d < b
theorem Bo.start_ok : Bo.start.Ok 0 :=
  { lt := fun a b h => by cases h
    opn := fun k h => by cases h
    desc := List.Pairwise.nil
    out := fun a b k h => by cases h
    cross := fun a b c d h => by cases h }
theorem Bo.Ok.more {s : Bo} {i : Nat} (h : s.Ok i) : s.Ok (i + 1) :=
  ⟨fun a b e => let ⟨h1, h2, h3⟩ := h.lt a b e; ⟨by omega, by omega, h3⟩, fun k hk => let ⟨h1, h2⟩ := h.opn k hk; ⟨by omega, h2⟩, h.desc, h.out, h.cross⟩
theorem Bo.Ok.push {s : Bo} {i : Nat} (h : s.Ok i) : Bo.Ok ⟨s.f, i :: s.op⟩ (i + 1) := by
  have hi : s.f i = none := by
    cases e : s.f i with
    | none => rfl
    | some b => have := (h.lt i b e).1; omega
  refine ⟨h.more.lt, fun k hk => ?_, List.pairwise_cons.2 ⟨fun k hk => (h.opn k hk).1, h.desc⟩, fun a b k e hab hk => ?_, h.cross⟩
  · rcases List.mem_cons.1 hk with rfl | hk
    · exact ⟨by omega, hi⟩
    · exact h.more.opn k hk
  · rcases List.mem_cons.1 hk with rfl | hk
    · have := (h.lt a b e).2.1; omega
    · exact h.out a b k e hab hk
theorem put2_some {f : Nat → Option Nat} {i k a b : Nat} (h : put2 f i k a = some b) : (a = i ∧ b = k) ∨ (a = k ∧ b = i) ∨ (a ≠ i ∧ a ≠ k ∧ f a = some b) := by
  unfold put2 at h
  split at h
  · injection h with h; exact .inl ⟨by assumption, h.symm⟩
  · split at h
    · injection h with h; exact .inr (.inl ⟨by assumption, h.symm⟩)
    · exact .inr (.inr ⟨by assumption, by assumption, h⟩)
theorem Bo.Ok.pop {f : Nat → Option Nat} {k : Nat} {r : List Nat} {i : Nat} (h : Bo.Ok ⟨f, k :: r⟩ i) : Bo.Ok ⟨put2 f i k, r⟩ (i + 1) := by
  obtain ⟨hk1, hk2⟩ := h.opn k (by simp)
  have hki : i ≠ k := by omega
  have hd := List.pairwise_cons.1 h.desc
  have hold : ∀ a b, f a = some b → a ≠ i ∧ a ≠ k ∧ b ≠ i ∧ b ≠ k := by
    intro a b e
    obtain ⟨h1, h2, h3, h4⟩ := h.lt a b e
    have h4 : f b = some a := h4
    have hk2 : f k = none := hk2
    have e : f a = some b := e
    refine ⟨by omega, fun ea => ?_, by omega, fun eb => ?_⟩
    · rw [ea, hk2] at e; cases e
    · rw [eb, hk2] at h4; cases h4
  have hin : ∀ a b, f a = some b → put2 f i k a = some b := by
    intro a b e
    obtain ⟨h1, h2, _⟩ := hold a b e
    unfold put2
    rw [if_neg h1, if_neg h2]; exact e
  refine ⟨fun a b e => ?_, fun n hn => ?_, hd.2, fun a b n e hab hn hc => ?_, fun a b c d e e' hab hcd hac hcb => ?_⟩
  · rcases put2_some e with ⟨rfl, rfl⟩ | ⟨rfl, rfl⟩ | ⟨_, _, e⟩
    · refine ⟨by omega, by omega, hki, ?_⟩
      show put2 f a b b = some a
      unfold put2; rw [if_neg (Ne.symm hki), if_pos rfl]
    · refine ⟨by omega, by omega, Ne.symm hki, ?_⟩
      show put2 f b a b = some a
      unfold put2; rw [if_pos rfl]
    · obtain ⟨h1, h2, h3, h4⟩ := h.lt a b e
      exact ⟨by omega, by omega, h3, hin b a h4⟩
  · obtain ⟨h1, h2⟩ := h.opn n (List.mem_cons_of_mem _ hn)
    have := hd.1 n hn
    refine ⟨by omega, ?_⟩
    show put2 f i k n = none
    unfold put2
    rw [if_neg (by omega), if_neg (by omega)]
    exact h2
  · have hnk := hd.1 n hn
    rcases put2_some e with ⟨rfl, rfl⟩ | ⟨rfl, rfl⟩ | ⟨_, _, e⟩
    · omega
    · omega
    · exact h.out a b n e hab (List.mem_cons_of_mem _ hn) hc
  · rcases put2_some e with ⟨rfl, rfl⟩ | ⟨rfl, rfl⟩ | ⟨_, _, g⟩
    · omega
    · rcases put2_some e' with ⟨rfl, rfl⟩ | ⟨rfl, rfl⟩ | ⟨_, _, e'⟩
      · omega
      · omega
      · have := (h.lt c d e').2.1; omega
    · rcases put2_some e' with ⟨rfl, rfl⟩ | ⟨rfl, rfl⟩ | ⟨_, _, g'⟩
      · omega
      · exact absurd ⟨hac, hcb⟩ (h.out a b c g hab (by simp))
      · exact h.cross a b c d g g' hab hcd hac hcb
theorem Bo.Ok.step {s : Bo} {i : Nat} (h : s.Ok i) (d : Nat) : (s.step i d).Ok (i + 1) := by
  unfold Bo.step
  split
  · exact h.push
  · split
    · obtain ⟨f, op⟩ := s
      cases op with
      | nil => exact h.more
      | cons k r => exact h.pop
    · exact h.more
theorem Bo.run_ok (bits : Nat) : ∀ i, (Bo.run bits i).Ok i
  | 0 => Bo.start_ok
  | i + 1 => (Bo.run_ok bits i).step _

/-- Matched leaves below L that do not cross. -/
structure Nc (f : Nat → Option Nat) (L : Nat) : Prop where
  lt : ∀ a b, f a = some b → a < L ∧ b < L ∧ a ≠ b ∧ f b = some a
  cross : ∀ a b c d, f a = some b → f c = some d → a < b → c < d → a < c → c < b → d < b
theorem Bo.Ok.nc {s : Bo} {i : Nat} (h : s.Ok i) : Nc s.f i := ⟨h.lt, h.cross⟩

section
variable (f : Nat → Option Nat)
def isLoose (i : Nat) : Bool := (f i).isNone
def folio (i : Nat) : Option (Nat × Nat) := match f i with
  | some j => if i < j then some (i, j) else none
  | none => none
def looseTo (n : Nat) : List Nat := (List.range n).filter (isLoose f)
def foliosTo (n : Nat) : List (Nat × Nat) := (List.range n).filterMap (folio f)
theorem looseTo_succ (n : Nat) : looseTo f (n + 1) = looseTo f n ++ (if isLoose f n then [n] else []) := by
  unfold looseTo
  rw [List.range_succ, List.filter_append]
  congr 1
  cases h : isLoose f n <;> simp [h]
theorem foliosTo_succ (n : Nat) : foliosTo f (n + 1) = foliosTo f n ++ (folio f n).toList := by
  unfold foliosTo
  rw [List.range_succ, List.filterMap_append]
  congr 1
end
section
variable {f : Nat → Option Nat} {L : Nat}
theorem mem_loose {n a : Nat} : a ∈ looseTo f n ↔ a < n ∧ f a = none := by
  unfold looseTo isLoose
  rw [List.mem_filter, List.mem_range, Option.isNone_iff_eq_none]
theorem folio_eq {i : Nat} {p : Nat × Nat} : folio f i = some p ↔ p.1 = i ∧ f i = some p.2 ∧ i < p.2 := by
  unfold folio
  cases h : f i with
  | none => simp
  | some j =>
    by_cases hj : i < j
    · simp only [hj, if_true, Option.some.injEq]
      constructor
      · rintro rfl; exact ⟨rfl, rfl, hj⟩
      · rintro ⟨h1, h2, _⟩; subst h2; subst h1; rfl
    · simp only [hj, if_false, Option.some.injEq]
      constructor
      · intro e; cases e
      · rintro ⟨_, h2, h3⟩; subst h2; exact absurd h3 hj
theorem mem_folio {n : Nat} {p : Nat × Nat} : p ∈ foliosTo f n ↔ p.1 < n ∧ f p.1 = some p.2 ∧ p.1 < p.2 := by
  unfold foliosTo
  rw [List.mem_filterMap]
  constructor
  · rintro ⟨i, hi, h⟩
    obtain ⟨h1, h2, h3⟩ := folio_eq.1 h
    rw [List.mem_range] at hi
    subst h1
    exact ⟨hi, h2, h3⟩
  · rintro ⟨h1, h2, h3⟩
    exact ⟨p.1, List.mem_range.2 h1, folio_eq.2 ⟨rfl, h2, h3⟩⟩
theorem loose_sorted (n : Nat) : (looseTo f n).Pairwise (· < ·) := List.Pairwise.filter _ List.pairwise_lt_range
theorem folios_sorted (n : Nat) : (foliosTo f n).Pairwise (fun p q => p.1 < q.1) := by
  unfold foliosTo
  rw [List.pairwise_filterMap]
  refine List.Pairwise.imp ?_ (List.pairwise_lt_range (n := n))
  intro a b hab p hp q hq
  rw [(folio_eq.1 hp).1, (folio_eq.1 hq).1]
  exact hab
/-- All leaves of a binding, as they are listed. -/
def leavesOf (f : Nat → Option Nat) (n : Nat) : List Nat := looseTo f n ++ (foliosTo f n).flatMap fun p => [p.1, p.2]
theorem leaves_count (h : Nc f L) (a : Nat) (ha : a < L) : (leavesOf f L).count a = 1 := by
  unfold leavesOf
  have nd1 : (looseTo f L).Nodup := (loose_sorted L).imp fun h => Nat.ne_of_lt h
  have c1 : ∀ l : List (Nat × Nat), l.Pairwise (fun p q => p.1 < q.1) → (∀ p ∈ l, f p.1 = some p.2 ∧ p.1 < p.2) → (l.flatMap fun p => [p.1, p.2]).count a ≤ 1 := by
    intro l
    induction l with
    | nil => intro _ _; simp
    | cons p r ih =>
      intro hs hm
      rw [List.flatMap_cons, List.count_append]
      have hp := hm p (by simp)
      have hs := List.pairwise_cons.1 hs
      have ih := ih hs.2 fun q hq => hm q (List.mem_cons_of_mem _ hq)
      by_cases e1 : p.1 = a ∨ p.2 = a
      · have hz : (r.flatMap fun p => [p.1, p.2]).count a = 0 := by
          rw [List.count_eq_zero]
          intro hmem
          obtain ⟨q, hq, hqa⟩ := List.mem_flatMap.1 hmem
          have hq1 := hs.1 q hq
          have hq2 := hm q (List.mem_cons_of_mem _ hq)
          have hfp := h.lt _ _ hp.1
          have hfq := h.lt _ _ hq2.1
          simp only [List.mem_cons, List.not_mem_nil, or_false] at hqa
          rcases e1 with e1 | e1 <;> rcases hqa with e2 | e2
          · omega
          · have : some p.2 = some q.1 := by rw [← hp.1, ← hfq.2.2.2, ← e2, e1]
            injection this with this
            omega
          · have : some p.1 = some q.2 := by rw [← hfp.2.2.2, ← hq2.1, ← e2, e1]
            injection this with this
            omega
          · have : some p.1 = some q.1 := by rw [← hfp.2.2.2, ← hfq.2.2.2, ← e2, e1]
            injection this with this
            omega
        rw [hz]
        have : p.1 ≠ p.2 := by omega
        rcases e1 with rfl | rfl
        · simp [Ne.symm this]
        · simp [this]
      · have : ([p.1, p.2].count a) = 0 := by
          rw [List.count_eq_zero]
          simp only [List.mem_cons, List.not_mem_nil, or_false]
          rintro (e | e)
          · exact e1 (.inl e.symm)
          · exact e1 (.inr e.symm)
        rw [this]; omega
  have hc := c1 _ (folios_sorted L) fun p hp => ⟨(mem_folio.1 hp).2.1, (mem_folio.1 hp).2.2⟩
  rw [List.count_append]
  cases hf : f a with
  | none =>
    have h1 : (looseTo f L).count a = 1 := by rw [nd1.count, if_pos (mem_loose.2 ⟨ha, hf⟩)]
    have h2 : ((foliosTo f L).flatMap fun p => [p.1, p.2]).count a = 0 := by
      rw [List.count_eq_zero]
      intro hm
      obtain ⟨p, hp, hpa⟩ := List.mem_flatMap.1 hm
      have hp' := mem_folio.1 hp
      have hfp := h.lt _ _ hp'.2.1
      simp only [List.mem_cons, List.not_mem_nil, or_false] at hpa
      rcases hpa with rfl | rfl
      · rw [hf] at hp'; cases hp'.2.1
      · rw [hf] at hfp; cases hfp.2.2.2
    omega
  | some b =>
    have h1 : (looseTo f L).count a = 0 := by
      rw [List.count_eq_zero]
      intro hm
      rw [(mem_loose.1 hm).2] at hf; cases hf
    have h2 : 0 < ((foliosTo f L).flatMap fun p => [p.1, p.2]).count a := by
      rw [List.count_pos_iff, List.mem_flatMap]
      obtain ⟨h1, h2, h3, h4⟩ := h.lt a b hf
      by_cases hab : a < b
      · exact ⟨(a, b), mem_folio.2 ⟨h1, hf, hab⟩, by simp⟩
      · exact ⟨(b, a), mem_folio.2 ⟨h2, h4, by show b < a; omega⟩, by simp⟩
    omega
theorem leaves_perm (h : Nc f L) : (leavesOf f L).Perm (List.range L) := by
  rw [List.perm_iff_count]
  intro a
  by_cases ha : a < L
  · rw [leaves_count h a ha, List.nodup_range.count, if_pos (List.mem_range.2 ha)]
  · rw [List.nodup_range.count, if_neg (by simpa using ha), List.count_eq_zero]
    intro hm
    rcases List.mem_append.1 hm with hm | hm
    · exact ha (mem_loose.1 hm).1
    · obtain ⟨p, hp, hpa⟩ := List.mem_flatMap.1 hm
      have := mem_folio.1 hp
      have hf := h.lt _ _ this.2.1
      simp only [List.mem_cons, List.not_mem_nil, or_false] at hpa
      omega

/-- The partner, the leaf itself where it is loose. -/
def oth (f : Nat → Option Nat) (a : Nat) : Nat := (f a).getD a
/-- Is a leaf the first of a section? -/
def Top (f : Nat → Option Nat) (a : Nat) : Prop := a ≤ oth f a ∧ ∀ p q, f p = some q → p < q → ¬ (p < a ∧ a < q)
theorem top_zero : Top f 0 := ⟨by omega, fun _ _ _ _ h => by omega⟩
theorem oth_lt (h : Nc f L) {a : Nat} (ha : a < L) : oth f a < L := by
  unfold oth
  cases e : f a with
  | none => exact ha
  | some b => exact (h.lt a b e).2.1
theorem oth_cases (f : Nat → Option Nat) (a : Nat) : (f a = none ∧ oth f a = a) ∨ (f a = some (oth f a)) := by
  unfold oth
  cases f a with
  | none => exact .inl ⟨rfl, rfl⟩
  | some b => exact .inr rfl
theorem top_next (h : Nc f L) {a : Nat} (ht : Top f a) : Top f (oth f a + 1) := by
  obtain ⟨h1, h2⟩ := ht
  have key : ∀ p q, f p = some q → p < q → p < oth f a + 1 → oth f a + 1 ≤ q → False := by
    intro p q e hpq hp hq
    have hq' : a < q := by omega
    by_cases hpa : p < a
    · exact h2 p q e hpq ⟨hpa, hq'⟩
    · rcases oth_cases f a with ⟨e1, e2⟩ | e1
      · have : p = a := by omega
        subst this
        rw [e1] at e; cases e
      · have ha := h.lt _ _ e1
        by_cases hpe : p = a
        · subst hpe
          rw [e1] at e
          injection e with e
          omega
        · by_cases hpo : p = oth f a
          · rw [hpo, ha.2.2.2] at e
            injection e with e
            omega
          · have := h.cross a _ p q e1 e (by omega) hpq (by omega) (by omega)
            omega
  refine ⟨?_, fun p q e hpq hc => key p q e hpq hc.1 (by omega)⟩
  rcases oth_cases f (oth f a + 1) with ⟨_, e2⟩ | e1
  · omega
  · rcases Nat.lt_or_ge (oth f (oth f a + 1)) (oth f a + 1) with hlt | hge
    · have hb := h.lt _ _ e1
      exact (key _ _ hb.2.2.2 hlt hlt (Nat.le_refl _)).elim
    · exact hge
theorem top_gap (h : Nc f L) {a c : Nat} (hc : Top f c) (h1 : a < c) (h2 : c ≤ oth f a) : False := by
  rcases oth_cases f a with ⟨_, e2⟩ | e1
  · omega
  · have ha := h.lt _ _ e1
    by_cases hco : c = oth f a
    · have := hc.1
      unfold oth at this
      rw [hco, ha.2.2.2] at this
      simp only [Option.getD_some] at this
      omega
    · exact hc.2 a _ e1 (by omega) ⟨h1, by omega⟩
/-- A list of pairs, ascending by what begins, that has exactly the sections, is the chain of them. -/
theorem chain_at (l : List (Nat × Nat)) (hs : l.Pairwise (fun p q => p.1 < q.1)) (hm : ∀ p, p ∈ l ↔ p.1 < L ∧ Top f p.1 ∧ p.2 = oth f p.1) :
    ∀ (i a : Nat), (∀ j (hj : j < l.length), j < i → l[j].1 < a) → (∀ j (hj : j < l.length), i ≤ j → a ≤ l[j].1) → Top f a → a < L → ∃ hi : i < l.length, l[i] = (a, oth f a) := by
  intro i a hlo hhi hta haL
  have hmem : (a, oth f a) ∈ l := (hm _).2 ⟨haL, hta, rfl⟩
  obtain ⟨j, hj, hje⟩ := List.mem_iff_getElem.1 hmem
  have hij : i ≤ j := by
    rcases Nat.lt_or_ge j i with h' | h'
    · have := hlo j hj h'; rw [hje] at this; simp at this
    · exact h'
  have hil : i < l.length := by omega
  refine ⟨hil, ?_⟩
  rcases Nat.lt_or_ge i j with h' | h'
  · have h1 := List.pairwise_iff_getElem.1 hs i j hil hj h'
    have h2 := hhi i hil (Nat.le_refl _)
    rw [hje] at h1
    simp only at h1
    omega
  · have : j = i := by omega
    subst this; exact hje
theorem chain_next (h : Nc f L) (l : List (Nat × Nat)) (hs : l.Pairwise (fun p q => p.1 < q.1)) (hm : ∀ p, p ∈ l ↔ p.1 < L ∧ Top f p.1 ∧ p.2 = oth f p.1) (i a : Nat)
    (hlo : ∀ j (hj : j < l.length), j < i → l[j].1 < a) (hi : i < l.length) (he : l[i] = (a, oth f a)) (hta : Top f a) :
    (∀ j (hj : j < l.length), j < i + 1 → l[j].1 < oth f a + 1) ∧ (∀ j (hj : j < l.length), i + 1 ≤ j → oth f a + 1 ≤ l[j].1) := by
  have h1 := hta.1
  refine ⟨fun j hj hji => ?_, fun j hj hij => ?_⟩
  · by_cases e : j = i
    · subst e; rw [he]; show a < _; omega
    · have := hlo j hj (by omega); omega
  · have hlt := List.pairwise_iff_getElem.1 hs i j hi hj (by omega)
    rw [he] at hlt
    simp only at hlt
    have hc := (hm l[j]).1 (List.getElem_mem hj)
    rcases Nat.lt_or_ge (oth f a) l[j].1 with h' | h'
    · exact h'
    · exact (top_gap h hc.2.1 hlt h').elim
/-- Nested: every leaf has the folio of the middle. -/
theorem nested_iff (h : Nc f L) : ((∀ p ∈ foliosTo f L, p.1 + p.2 = L - 1) ∧ looseTo f L = []) ↔ ∀ i, i < L → oth f i = L - 1 - i ∧ oth f i ≠ i := by
  constructor
  · rintro ⟨h1, h2⟩ i hi
    rcases oth_cases f i with ⟨e1, _⟩ | e1
    · have : i ∈ looseTo f L := mem_loose.2 ⟨hi, e1⟩
      rw [h2] at this; cases this
    · have hb := h.lt _ _ e1
      rcases Nat.lt_or_ge i (oth f i) with h' | h'
      · have := h1 (i, oth f i) (mem_folio.2 ⟨hi, e1, h'⟩)
        simp only at this
        omega
      · have := h1 (oth f i, i) (mem_folio.2 ⟨hb.2.1, hb.2.2.2, by show oth f i < i; omega⟩)
        simp only at this
        omega
  · intro hall
    refine ⟨fun p hp => ?_, ?_⟩
    · have hp' := mem_folio.1 hp
      have := (hall p.1 hp'.1).1
      unfold oth at this
      rw [hp'.2.1] at this
      simp only [Option.getD_some] at this
      omega
    · rw [List.eq_nil_iff_forall_not_mem]
      intro a ha
      have ha' := mem_loose.1 ha
      have := (hall a ha'.1).2
      unfold oth at this
      rw [ha'.2] at this
      exact this rfl
end
end Go.Proofs.YtdkijcmhjeaofaaGreatDoor
namespace Go.Proofs.YtdkijcmhjeaofaaGreatDoor
section
variable {f : Nat → Option Nat} {L : Nat}
/-- Does a leaf lie in a folio of the list? -/
def inF (l : List (Nat × Nat)) (a : Nat) : Bool := l.any fun g => decide (g.1 < a) && decide (a < g.2)
theorem inF_false {l : List (Nat × Nat)} {a : Nat} : inF l a = false ↔ ∀ g ∈ l, ¬ (g.1 < a ∧ a < g.2) := by
  unfold inF
  rw [List.any_eq_false]
  constructor
  · intro h g hg hc
    have := h g hg
    rw [decide_eq_true hc.1, decide_eq_true hc.2] at this
    exact this rfl
  · intro h g hg hc
    rw [Bool.and_eq_true, decide_eq_true_iff, decide_eq_true_iff] at hc
    exact h g hg hc
def allP (f : Nat → Option Nat) (L : Nat) : List (Nat × Nat) := foliosTo f L ++ (looseTo f L).map fun n => (n, n)
def secs (f : Nat → Option Nat) (L : Nat) : List (Nat × Nat) := (allP f L).filter fun p => !inF (foliosTo f L) p.1
theorem mem_allP (h : Nc f L) {p : Nat × Nat} : p ∈ allP f L ↔ p.1 < L ∧ p.1 ≤ oth f p.1 ∧ p.2 = oth f p.1 := by
  unfold allP
  rw [List.mem_append, mem_folio, List.mem_map]
  constructor
  · rintro (⟨h1, h2, h3⟩ | ⟨n, hn, rfl⟩)
    · have : oth f p.1 = p.2 := by unfold oth; rw [h2]; rfl
      exact ⟨h1, by omega, this.symm⟩
    · obtain ⟨h1, h2⟩ := mem_loose.1 hn
      have : oth f n = n := by unfold oth; rw [h2]; rfl
      exact ⟨h1, by show n ≤ oth f n; omega, this.symm⟩
  · rintro ⟨h1, h2, h3⟩
    rcases oth_cases f p.1 with ⟨e1, e2⟩ | e1
    · exact .inr ⟨p.1, mem_loose.2 ⟨h1, e1⟩, by rw [← h3] at e2; exact Prod.ext rfl e2.symm⟩
    · by_cases hlt : p.1 < p.2
      · exact .inl ⟨h1, by rw [h3]; exact e1, hlt⟩
      · have e2 : oth f p.1 = p.1 := by omega
        refine .inr ⟨p.1, mem_loose.2 ⟨h1, ?_⟩, Prod.ext rfl (by show p.1 = p.2; omega)⟩
        cases hf : f p.1 with
        | none => rfl
        | some b => exfalso; rw [e2, hf] at e1; exact (h.lt _ _ hf).2.2.1 (Option.some.inj e1).symm
theorem mem_secs (h : Nc f L) {p : Nat × Nat} : p ∈ secs f L ↔ p.1 < L ∧ Top f p.1 ∧ p.2 = oth f p.1 := by
  unfold secs
  rw [List.mem_filter, mem_allP h, Bool.not_eq_true', inF_false]
  unfold Top
  constructor
  · rintro ⟨⟨h1, h2, h3⟩, h4⟩
    refine ⟨h1, ⟨h2, fun a b e hab hc => ?_⟩, h3⟩
    exact h4 (a, b) (mem_folio.2 ⟨(h.lt a b e).1, e, hab⟩) hc
  · rintro ⟨h1, ⟨h2, h3⟩, h4⟩
    exact ⟨⟨h1, h2, h4⟩, fun g hg hc => let ⟨_, e, hlt⟩ := mem_folio.1 hg; h3 _ _ e hlt hc⟩
theorem secs_nodup : (secs f L).Pairwise (fun p q => p.1 ≠ q.1) := by
  refine List.Pairwise.filter _ ?_
  unfold allP
  refine List.pairwise_append.2 ⟨(folios_sorted L).imp fun h => Nat.ne_of_lt h, ?_, ?_⟩
  · rw [List.pairwise_map]
    exact (loose_sorted L).imp fun h => Nat.ne_of_lt h
  · rintro p hp q hq e
    obtain ⟨n, hn, rfl⟩ := List.mem_map.1 hq
    have h1 := (mem_folio.1 hp).2.1
    rw [e, (mem_loose.1 hn).2] at h1
    cases h1
/-- A sorted permutation of them is ascending, and has exactly the sections. -/
theorem secs_sorted (h : Nc f L) {l : List (Nat × Nat)} (hp : l.Perm (secs f L)) (hs : l.Pairwise (fun p q => p.1 ≤ q.1)) :
    l.Pairwise (fun p q => p.1 < q.1) ∧ ∀ p, p ∈ l ↔ p.1 < L ∧ Top f p.1 ∧ p.2 = oth f p.1 := by
  refine ⟨?_, fun p => by rw [hp.mem_iff, mem_secs h]⟩
  have hn : l.Pairwise (fun p q => p.1 ≠ q.1) := (hp.pairwise_iff fun h => Ne.symm h).2 secs_nodup
  exact (hs.and hn).imp fun h => by omega
end
end Go.Proofs.YtdkijcmhjeaofaaGreatDoor
namespace Go.Proofs.YtdkijcmhjeaofaaGreatDoor
open Go.RowKit

/-- The call returns v, and all memory that was there is as it was. -/
def RetBelow (v : Value) (w : World) (e : Ending) (w' : World) : Prop := e = .returned v ∧ Below w.heap.size w w'

theorem ret_int {k : IntKind} {a b : Int} (h : a = b) : Ending.returned (.int k a) = .returned (.int k b) := by rw [h]
theorem val_int {k : IntKind} {a b : Int} (h : a = b) : Value.int k a = Value.int k b := by rw [h]

/-- The slice value at A, of n elements of sz cells each, reads as the cells xs. -/
def Rd (w : World) (A : Option Addr) (sz n : Nat) (xs : List Value) : Prop :=
  xs.length = n * sz ∧ (0 < n → ∃ b o, A = some ⟨b, o, none⟩ ∧ b < w.heap.size ∧ ∀ j u, xs[j]? = some u → w.cell? ⟨b, o + j, none⟩ = some u)

section
variable {w w' : World} {A : Option Addr} {sz n : Nat} {xs : List Value}
theorem Rd.nil : Rd w A sz 0 [] := ⟨by simp, fun h => absurd h (by omega)⟩
theorem Rd.keep (h : Rd w A sz n xs) (hs : w.heap.size ≤ w'.heap.size) (hk : ∀ b o, b < w.heap.size → w'.cell? ⟨b, o, none⟩ = w.cell? ⟨b, o, none⟩) : Rd w' A sz n xs :=
  ⟨h.1, fun hn => by
    obtain ⟨b, o, e, hb, hc⟩ := h.2 hn
    exact ⟨b, o, e, by omega, fun j u hu => (hk _ _ hb).trans (hc j u hu)⟩⟩
theorem Rd.below (h : Rd w A sz n xs) (hb : Below w.heap.size w w') : Rd w' A sz n xs := h.keep hb.size fun b o hl => hb.cell (p := ⟨b, o, none⟩) hl
theorem Rd.drew (h : Rd w A sz n xs) : Rd w.drew A sz n xs := h
theorem Rd.alloc (h : Rd w A sz n xs) (o : Obj) : Rd (w.alloc o) A sz n xs := h.keep (by simp) fun b o' hl => World.cell?_alloc_lt w o ⟨b, o', none⟩ hl
/-- Its first k elements. -/
theorem Rd.take (h : Rd w A sz n xs) {k : Nat} (hk : k ≤ n) : Rd w A sz k (xs.take (k * sz)) := by
  have hm : k * sz ≤ n * sz := Nat.mul_le_mul_right _ hk
  refine ⟨by rw [List.length_take, h.1]; omega, fun hn => ?_⟩
  obtain ⟨b, o, e, hb, hc⟩ := h.2 (by omega)
  refine ⟨b, o, e, hb, fun j u hu => hc j u ?_⟩
  rw [List.getElem?_take] at hu
  split at hu
  · exact hu
  · cases hu
theorem Rd.of_own {base : Nat} {e : TypeId} {c : Nat} (h : w.ownsRow base e sz (.slice A n c) n xs) : Rd w A sz n xs := by
  refine ⟨h.1, fun hn => ?_⟩
  rcases h.2 with ⟨_, h0⟩ | ⟨g, cap, cur, hv, _, hg, _, _, _, ht⟩
  · omega
  · have hA : A = some ⟨g, 0, none⟩ := by injection hv
    refine ⟨g, 0, hA, (Array.getElem?_eq_some_iff.1 hg).1, fun j u hu => ?_⟩
    rw [Nat.zero_add, cell_of_row w g j cur e (0, 0) hg]
    rw [← ht, List.getElem?_take] at hu
    split at hu
    · simpa using hu
    · cases hu
end

/-- The call returns a slice in new memory that holds the cells xs, and leaves old memory alone. -/
def OwnRet (e : TypeId) (sz n : Nat) (xs : List Value) (w : World) (en : Ending) (w' : World) : Prop :=
  ∃ v, en = .returned v ∧ w'.ownsRow w.heap.size e sz v n xs ∧ Below w.heap.size w w'

/-- A block that was just made reads as its cells. -/
theorem rd_new {w : World} {e : TypeId} {b : Nat} (xs : List Value) (n sz : Nat) (h : xs.length = n * sz) (hb : w.heap.size = b) : Rd (w.alloc (.cells xs.toArray e)) (some ⟨b, 0, none⟩) sz n xs := by
  subst hb
  exact ⟨h, fun _ => ⟨_, 0, rfl, by simp, fun j u hu => by
    rw [Nat.zero_add, cell_of_row _ _ j xs.toArray e (0, 0) (heap_alloc_new w _)]; simpa using hu⟩⟩
theorem own_new {w : World} {b : Nat} (base : Nat) {e : TypeId} (sz n : Nat) (xs : List Value) (hb : base ≤ w.heap.size) (hm : n ≤ maxLen) (h : xs.length = n * sz) (hs : w.heap.size = b) :
    (w.alloc (.cells xs.toArray e)).ownsRow base e sz (.slice (some ⟨b, 0, none⟩) n n) n xs := by
  subst hs
  exact ⟨h, .inr ⟨w.heap.size, n, xs.toArray, rfl, hb, heap_alloc_new w _, Nat.le_refl _, hm, by simpa using h, by rw [← h]; simp⟩⟩

theorem cells_new (w : World) (xs : List Value) (e : TypeId) : ∀ j u, xs[j]? = some u → (w.alloc (.cells xs.toArray e)).cell? ((⟨w.heap.size, 0, none⟩ : Addr).add j) = some u := by
  intro j u hu
  have : (⟨w.heap.size, 0, none⟩ : Addr).add j = ⟨w.heap.size, j, none⟩ := by unfold Addr.add; split <;> simp_all
  rw [this, cell_of_row _ _ j xs.toArray e (0, 0) (heap_alloc_new w _)]; simpa using hu

theorem below_drewN {B : Nat} {a w : World} (h : Below B a w) (n : Nat) : Below B a (w.drewN n) := ⟨h.os, h.tape, h.output, h.size, h.block⟩
theorem below_cell {W w1 : World} (hb : Below W.heap.size W w1) {b o : Nat} {v : Value} (h : W.cell? ⟨b, o, none⟩ = some v) : w1.cell? ⟨b, o, none⟩ = some v := by
  rw [hb.cell (p := ⟨b, o, none⟩) (World.block_lt_of_cell? W ⟨b, o, none⟩ h)]; exact h

/-- The four cells of a box that was just made, behind a call that leaves old memory alone. -/
theorem box4 {w w2 : World} {a0 a1 a2 a3 : Value} {e : TypeId} (hb : Below (w.alloc (.cells #[a0, a1, a2, a3] e)).heap.size (w.alloc (.cells #[a0, a1, a2, a3] e)) w2) :
    w2.cell? ⟨w.heap.size, 0, none⟩ = some a0 ∧ w2.cell? ⟨w.heap.size, 1, none⟩ = some a1 ∧ w2.cell? ⟨w.heap.size, 2, none⟩ = some a2 ∧ w2.cell? ⟨w.heap.size, 3, none⟩ = some a3 := by
  have h : ∀ j u, #[a0, a1, a2, a3][j]? = some u → w2.cell? ⟨w.heap.size, j, none⟩ = some u := by
    intro j u hu
    rw [hb.cell (p := ⟨w.heap.size, j, none⟩) (by simp), cell_of_row _ _ j _ e (0, 0) (heap_alloc_new w _)]; exact hu
  exact ⟨h 0 _ rfl, h 1 _ rfl, h 2 _ rfl, h 3 _ rfl⟩

theorem list_le_len {α β : Type} {f : α → List β} {l : List α} (k : Nat) : ((l.take k).flatMap f) ++ ((l.drop k).flatMap f) = l.flatMap f := by
  rw [← List.flatMap_append, List.take_append_drop]
/-- What is owned stays owned behind a call that leaves all memory that was there alone. -/
theorem own_keep {w w' : World} {base : Nat} {e : TypeId} {size : Nat} {v : Value} {n B : Nat} {xs : List Value} (h : w.ownsRow base e size v n xs) (hB : w.heap.size ≤ B) (hb : Below B w w') : w'.ownsRow base e size v n xs := by
  refine ⟨h.1, ?_⟩
  rcases h.2 with hn | ⟨g, cap, cur, rfl, hbb, hgg, rest⟩
  · exact .inl hn
  · exact .inr ⟨g, cap, cur, rfl, hbb, (hb.block g (by have := (Array.getElem?_eq_some_iff.1 hgg).1; omega)).trans hgg, rest⟩
/-- In a list of pieces of one length: the cell at i * sz + f. -/
theorem flat_at {α β : Type} (g : α → List β) (sz : Nat) (hg : ∀ a, (g a).length = sz) (l : List α) (i f : Nat) (hi : i < l.length) (hf : f < sz) :
    (l.flatMap g)[i * sz + f]? = (g l[i])[f]? := by
  induction l generalizing i with
  | nil => simp at hi
  | cons a r ih =>
    cases i with
    | zero => rw [List.flatMap_cons, List.getElem?_append_left (by rw [hg]; omega)]; simp
    | succ i =>
      rw [List.flatMap_cons, List.getElem?_append_right (by rw [hg, Nat.succ_mul]; omega), hg]
      have : (i + 1) * sz + f - sz = i * sz + f := by rw [Nat.succ_mul]; omega
      rw [this]
      simpa using ih i (by simpa using hi)
theorem flat_len {α β : Type} (g : α → List β) (sz : Nat) (hg : ∀ a, (g a).length = sz) (l : List α) : (l.flatMap g).length = l.length * sz := by
  induction l with
  | nil => simp
  | cons a r ih => rw [List.flatMap_cons, List.length_append, ih, hg, List.length_cons, Nat.succ_mul]; omega
theorem flat_take {α β : Type} (g : α → List β) (sz : Nat) (hg : ∀ a, (g a).length = sz) (l : List α) (k : Nat) : (l.flatMap g).take (k * sz) = (l.take k).flatMap g := by
  induction l generalizing k with
  | nil => simp
  | cons a r ih =>
    cases k with
    | zero => simp
    | succ k =>
      rw [List.flatMap_cons, List.take_succ_cons, List.flatMap_cons, List.take_append, hg]
      have e1 : (k + 1) * sz - sz = k * sz := by rw [Nat.succ_mul]; omega
      have e2 : List.take ((k + 1) * sz) (g a) = g a := List.take_of_length_le (by rw [hg, Nat.succ_mul]; omega)
      rw [e1, e2, ih]
theorem flat_drop {α β : Type} (g : α → List β) (sz : Nat) (hg : ∀ a, (g a).length = sz) (l : List α) (k : Nat) : (l.flatMap g).drop (k * sz) = (l.drop k).flatMap g := by
  induction l generalizing k with
  | nil => simp
  | cons a r ih =>
    cases k with
    | zero => simp
    | succ k =>
      rw [List.flatMap_cons, List.drop_succ_cons, List.drop_append, hg]
      have e1 : (k + 1) * sz - sz = k * sz := by rw [Nat.succ_mul]; omega
      have e2 : List.drop ((k + 1) * sz) (g a) = [] := List.drop_of_length_le (by rw [hg, Nat.succ_mul]; omega)
      rw [e1, e2, ih]; rfl
theorem flat_set {α β : Type} (g : α → List β) (sz : Nat) (hg : ∀ a, (g a).length = sz) (l : List α) (i f : Nat) (hi : i < l.length) (hf : f < sz) (a : α) (u : β) (ha : g a = (g l[i]).set f u) :
    (l.set i a).flatMap g = (l.flatMap g).set (i * sz + f) u := by
  induction l generalizing i with
  | nil => simp at hi
  | cons b r ih =>
    cases i with
    | zero =>
      simp only [List.set_cons_zero, List.flatMap_cons, Nat.zero_mul, Nat.zero_add]
      rw [List.set_append_left _ _ (by rw [hg]; omega), ha]
      simp
    | succ i =>
      simp only [List.set_cons_succ, List.flatMap_cons]
      rw [List.set_append_right _ _ (by rw [hg, Nat.succ_mul]; omega), hg]
      have e : (i + 1) * sz + f - sz = i * sz + f := by rw [Nat.succ_mul]; omega
      rw [e, ih i (by simpa using hi) (by simpa using ha)]
theorem own_base {w : World} {b b' : Nat} {e : TypeId} {sz : Nat} {v : Value} {n : Nat} {xs : List Value} (h : w.ownsRow b e sz v n xs) (hb : b' ≤ b) : w.ownsRow b' e sz v n xs := by
  refine ⟨h.1, ?_⟩
  rcases h.2 with hn | ⟨g, cap, cur, r1, r2, r3⟩
  · exact .inl hn
  · exact .inr ⟨g, cap, cur, r1, by omega, r3⟩
theorem own_form {w : World} {b : Nat} {e : TypeId} {sz : Nat} {v : Value} {n : Nat} {xs : List Value} (h : w.ownsRow b e sz v n xs) : ∃ A c, v = .slice A n c ∧ n ≤ c ∧ c ≤ maxLen := by
  rcases h.2 with ⟨rfl, h0⟩ | ⟨g, cap, cur, r1, _, _, r2, r3, _⟩
  · exact ⟨none, 0, by rw [h0], by omega, by simp [maxLen]⟩
  · exact ⟨_, cap, r1, r2, r3⟩
theorem own_free {w : World} {base g n c sz : Nat} {e : TypeId} {xs : List Value} (h : w.ownsRow base e sz (.slice (some ⟨g, 0, none⟩) n c) n xs) : ∀ q, w.frozen? ⟨g, q, none⟩ = false := by
  intro q
  rcases h.2 with ⟨h0, _⟩ | ⟨g', cap, cur, hv, hbb, hgg, _⟩
  · simp at h0
  obtain ⟨rfl, rfl⟩ : g' = g ∧ cap = c := by simp at hv; exact ⟨hv.1.symm, hv.2.symm⟩
  simp [World.frozen?, hgg]
theorem grown_tr {a b c : World} {r : Option Nat} (h : a.grownBy b r) (k : b.grownBy c r) : a.grownBy c r :=
  ⟨k.os.trans h.os, k.tape.trans h.tape, k.output.trans h.output, Nat.le_trans h.size k.size, fun i hi hne => (k.block i (Nat.lt_of_lt_of_le hi h.size) hne).trans (h.block i hi hne)⟩
theorem grown_refl (w : World) (r : Option Nat) : w.grownBy w r := ⟨rfl, rfl, rfl, Nat.le_refl _, fun _ _ _ => rfl⟩
theorem grown_drew {a b : World} {r : Option Nat} (h : a.grownBy b r) : a.grownBy b.drew r := ⟨h.os, h.tape, h.output, h.size, h.block⟩
theorem stored_tr {w0 w : World} {base g n cap sz : Nat} {e : TypeId} {xs : List Value} (h : w.ownsRow base e sz (.slice (some ⟨g, 0, none⟩) n cap) n xs) (hg : w0.grownBy w (some g)) (q : Nat) (u : Value) :
    (w.setCell ⟨g, q, none⟩ u).ownsRow base e sz (.slice (some ⟨g, 0, none⟩) n cap) n (xs.set q u) ∧ w0.grownBy (w.setCell ⟨g, q, none⟩ u) (some g) :=
  ⟨(h.stored q u).1, grown_tr hg (h.stored q u).2⟩
theorem run_append_none {P : Program} (w : World) (t ty e : TypeId) (i : TypeInfo) (ht : P.underlying t = some (.slice e)) (hi : P.info? e = some i) (b : Addr) (n cap c : Nat) (h : n ≤ cap) :
    (Builtin.append_ #[t, t] ty #[.slice (some b) n cap, .slice none 0 c]).run P w = .ok (.slice (some b) n cap) w := by
  simp [Builtin.append_, run_underlying ht, sizeOf, typeInfo, hi, Builtin.lenOf, Builtin.firstCells, loadCells, h, storeCells]
/-- The cells of a slice, as append asks for them. -/
theorem Rd.allK {w : World} {a : Addr} {n sz : Nat} {xs : List Value} (h : Rd w (some a) sz n xs) : ∀ j u, xs[j]? = some u → w.cell? (a.add j) = some u := by
  intro j u hu
  have hj := (List.getElem?_eq_some_iff.1 hu).1
  have hl := h.1
  have hn : 0 < n := by
    rcases Nat.eq_zero_or_pos n with h0 | h0
    · subst h0; omega
    · exact h0
  obtain ⟨b, o, e, _, hc⟩ := h.2 hn
  cases e
  have hadd : (⟨b, o, none⟩ : Addr).add j = ⟨b, o + j, none⟩ := by unfold Addr.add; split <;> simp_all
  rw [hadd]
  exact hc j u hu
/-- append of a slice that may be nil, of elements of any number of cells. -/
theorem run_append_rdK {P : Program} (w : World) (base : Nat) (t ty e : TypeId) (i : TypeInfo) (z : Value) (size bytes : Nat) (ht : P.underlying t = some (.slice e)) (hi : P.info? e = some i) (hz : i.zero = some z)
    (hsize : i.size = size) (hby : i.bytes = bytes) (hzs : z.cells.size = size) (hs : 0 < size) (v : Value) (n : Nat) (xs : List Value) (hown : w.ownsRow base e size v n xs) (A : Option Addr) (m c : Nat) (news : List Value) (h1 : ∀ u ∈ news, u.oneCell' = true) (hR : Rd w A size m news) (hA : A = none → m = 0)
    (h63 : n + m ≤ 1000000000000) (hbytes : bytes ≤ 100) (hbase : base ≤ w.heap.size) :
    ∃ v' w', (Builtin.append_ #[t, t] ty #[v, .slice A m c]).run P w = .ok v' w' ∧ w'.ownsRow base e size v' (n + m) (xs ++ news) ∧ w.grownBy w' v.ownBlock := by
  cases A with
  | none =>
    have hm := hA rfl
    subst hm
    have hl : news = [] := by
      have := hR.1
      rw [Nat.zero_mul] at this
      exact List.length_eq_zero_iff.1 this
    subst hl
    rw [List.append_nil, Nat.add_zero]
    refine ⟨v, w, ?_, hown, grown_refl _ _⟩
    rcases hown.2 with ⟨rfl, rfl⟩ | ⟨g, cap, cur, rfl, _, _, hnc, _⟩
    · simp [Builtin.append_, run_underlying ht, sizeOf, typeInfo, hi, Builtin.lenOf, Builtin.firstCells]
    · exact run_append_none w t ty e i ht hi _ n cap c hnc
  | some a =>
    obtain ⟨v', w', hr, h2, h3, _⟩ := run_append_own_at (P := P) w base t ty e i z size bytes ht hi hz hsize hby hzs hs v n xs hown a m c news hR.1 hR.allK h1 (by unfold maxLen; omega) (by
      have : (n + m) * bytes ≤ (n + m) * 100 := Nat.mul_le_mul_left _ hbytes
      omega) hbase
    exact ⟨v', w', hr, h2, h3⟩
theorem own_none {w : World} {g base n c : Nat} {e : TypeId} {cs : Array Value} {sz : Nat} (hb : base ≤ g) (hg : w.heap[g]? = some (.cells cs e (0, 0))) (_hn : n ≤ c) (hc : c ≤ maxLen) (hcs : cs.size = c * sz) : w.ownsRow base e sz (.slice (some ⟨g, 0, none⟩) 0 c) 0 [] :=
  ⟨by simp, .inr ⟨g, c, cs, rfl, hb, hg, by omega, hc, hcs, by simp⟩⟩
/-- What is owned stays owned behind a call that leaves old memory alone; what has grown, too. -/
theorem grown_below {a b c : World} {g : Nat} (h : a.grownBy b (some g)) (k : Below b.heap.size b c) : a.grownBy c (some g) :=
  ⟨k.os.trans h.os, k.tape.trans h.tape, k.output.trans h.output, Nat.le_trans h.size k.size, fun i hi hne => (k.block i (Nat.lt_of_lt_of_le hi h.size)).trans (h.block i hi hne)⟩
theorem grown_drewN {a b : World} {r : Option Nat} (h : a.grownBy b r) (n : Nat) : a.grownBy (b.drewN n) r := ⟨h.os, h.tape, h.output, h.size, h.block⟩
theorem rd_to_own_form {w : World} {base : Nat} {e : TypeId} {sz n : Nat} {v : Value} {xs : List Value} (h : w.ownsRow base e sz v n xs) : ∃ A c, v = .slice A n c ∧ (A = none → n = 0) := by
  rcases h.2 with ⟨rfl, rfl⟩ | ⟨g, cap, cur, rfl, _⟩
  · exact ⟨none, 0, rfl, fun _ => rfl⟩
  · exact ⟨some ⟨g, 0, none⟩, cap, rfl, fun h => by cases h⟩
theorem step_append_run {P : Program} {w : World} {ops : Array Oper} {o : Oper} {a : Act} {K : Act → World → Prop} {Q : Exit → Act → World → Prop} {E : Prop} (hw : Region.wanted o (yielded ops a.tmps) = true) (s x : Operand) (t : TypeId)
    (ho : o.op = .call { callee := .builtin .append, args := #[s, x], argTypes := #[t, t] }) (vs vx : Value) (hs : a.eval s = vs) (hx : a.eval x = vx) (v' : Value) (w' : World)
    (hr : (Builtin.append_ #[t, t] o.type #[vs, vx]).run P w = .ok v' w') (h : K (a.put o.dst v') w') : if Region.wanted o (yielded ops a.tmps) = true then Oper.wp P o a w K Q else E := by
  rw [if_pos hw]
  exact Lib.wp_append_run w s x t t ho vs vx hs hx v' w' hr h
theorem one_cell {w : World} {g : Nat} {v : Value} {t : TypeId} (h : w.heap[g]? = some (.cells #[v] t (0, 0))) : w.cell? ⟨g, 0, none⟩ = some v := by
  rw [cell_of_row w g 0 #[v] t (0, 0) h]; rfl
theorem below_of_drew {B : Nat} {w w' : World} (h : Below B w.drew w') : Below B w w' := ⟨h.os, h.tape, h.output, h.size, h.block⟩
theorem cells_new2 (W : World) (o : Obj) (xs : List Value) (e : TypeId) : ∀ j u, xs[j]? = some u → (((W.alloc o).alloc (.cells xs.toArray e)).drew).cell? ((⟨W.heap.size + 1, 0, none⟩ : Addr).add j) = some u := by
  intro j u hu
  have := cells_new (W.alloc o) xs e j u hu
  simpa using this
theorem undrew {w w2 : World} (h : Below w.drew.heap.size w.drew w2) : Below w.heap.size w w2 := ⟨h.os, h.tape, h.output, h.size, h.block⟩
theorem own_apart {w : World} {B e e' s s' n n' : Nat} {v v' : Value} {xs xs' : List Value} (h : w.ownsRow B e s v n xs) (h' : w.ownsRow B e' s' v' n' xs') (hne : e ≠ e') : v.ownBlock = none ∨ v.ownBlock ≠ v'.ownBlock := by
  rcases h.2 with ⟨rfl, _⟩ | ⟨g, cap, cur, rfl, _, hg, _⟩
  · exact .inl rfl
  · refine .inr ?_
    rcases h'.2 with ⟨rfl, _⟩ | ⟨g', cap', cur', rfl, _, hg', _⟩
    · simp [Value.ownBlock]
    · intro e1
      have : g = g' := by simpa [Value.ownBlock] using e1
      subst this
      rw [hg] at hg'
      injection hg' with h1
      injection h1 with _ h2 _
      exact hne h2
theorem own_kept {w w' : World} {B e s n : Nat} {v : Value} {xs : List Value} {row : Option Nat} (h : w.ownsRow B e s v n xs) (hg : w.grownBy w' row) (hne : v.ownBlock = none ∨ v.ownBlock ≠ row) : w'.ownsRow B e s v n xs := by
  refine ⟨h.1, ?_⟩
  rcases h.2 with hn | ⟨g, cap, cur, rfl, hb, hgg, rest⟩
  · exact .inl hn
  · refine .inr ⟨g, cap, cur, rfl, hb, (hg.block g (Array.getElem?_eq_some_iff.1 hgg).1 ?_).trans hgg, rest⟩
    rcases hne with h0 | h0
    · simp [Value.ownBlock] at h0
    · exact h0
theorem run_copy_sz {P : Program} (w : World) (dT sT ty elem : TypeId) (i : TypeInfo) (size : Nat) (g o dLen dCap : Nat) (a : Addr) (sLen sCap n : Nat) (cur : Array Value) (t : TypeId) (cs : List Value)
    (hu : P.underlying dT = some (.slice elem)) (hi : P.info? elem = some i) (hs : i.size = size)
    (hg : w.heap[g]? = some (.cells cur t (0, 0))) (hn : Nat.min sLen dLen = n) (hcs : cs.length = n * size)
    (hsrc : ∀ j v, cs[j]? = some v → w.cell? (a.add j) = some v) (hfit : o + cs.length ≤ cur.size) (h1 : ∀ v ∈ cs, v.oneCell' = true) :
    (Builtin.copy_ #[dT, sT] ty #[.slice (some ⟨g, o, none⟩) dLen dCap, .slice (some a) sLen sCap]).run P w =
      .ok (goInt n) (w.setRow g (splice cur.toList o cs).toArray) := by
  subst hs
  have hf := run_firstCells_some (P := P) w i.size n a sLen sCap cs hcs hsrc
  have hst := run_storeCells_at P g o t cs 0 cur w hg (by simpa using hfit) h1
  simp only [Nat.add_zero, List.append_assoc] at hst
  simp [Builtin.copy_, run_underlying hu, sizeOf, typeInfo, hi, Builtin.lenOf, hn, hf, hst, splice]
theorem below_setRow {w w1 : World} {B g : Nat} (h : Below B w w1) (hg : B ≤ g) (cs : Array Value) : Below B w (w1.setRow g cs) :=
  h.trans ⟨rfl, rfl, rfl, by simp [World.setRow], fun k hk => setRow_other w1 g k cs (by omega)⟩
theorem size_setRow (w : World) (g : Nat) (cs : Array Value) : (w.setRow g cs).heap.size = w.heap.size := by simp [World.setRow]
theorem swap_mid {α : Type} (U V Z : List α) (x y : α) {i j : Nat} (hi : i = U.length) (hj : j = U.length + 1 + V.length) :
    (U ++ x :: (V ++ y :: Z))[i]? = some x ∧ (U ++ x :: (V ++ y :: Z))[j]? = some y ∧ ((U ++ x :: (V ++ y :: Z)).set i y).set j x = U ++ y :: (V ++ x :: Z) := by
  subst hi hj
  refine ⟨?_, ?_, ?_⟩
  · rw [List.getElem?_append_right (Nat.le_refl _), Nat.sub_self]; rfl
  · rw [List.getElem?_append_right (by omega), show U.length + 1 + V.length - U.length = V.length + 1 by omega, List.getElem?_cons_succ, List.getElem?_append_right (Nat.le_refl _), Nat.sub_self]; rfl
  · rw [List.set_append_right _ _ (Nat.le_refl _), Nat.sub_self, List.set_cons_zero, List.set_append_right _ _ (by omega), show U.length + 1 + V.length - U.length = V.length + 1 by omega, List.set_cons_succ, List.set_append_right _ _ (Nat.le_refl _), Nat.sub_self, List.set_cons_zero]
def cmpI (a b : Int) : Int := if a < b then -1 else if b < a then 1 else 0
theorem cmpI_lt {a b : Int} (h : a < b) : cmpI a b = -1 := by unfold cmpI; rw [if_pos h]
theorem cmpI_gt {a b : Int} (h : b < a) : cmpI a b = 1 := by unfold cmpI; rw [if_neg (by omega), if_pos h]
theorem cmpI_eq {a b : Int} (h : b ≤ a) (h' : a ≤ b) : cmpI a b = 0 := by unfold cmpI; rw [if_neg (by omega), if_neg (by omega)]
theorem ret_bool {a b : Bool} (h : a = b) : Ending.returned (.bool a) = .returned (.bool b) := by rw [h]
theorem new2 (w : World) (o1 o2 : Obj) : ((w.alloc o1).alloc o2).heap[w.heap.size]? = some o1 ∧ ((w.alloc o1).alloc o2).heap[w.heap.size + 1]? = some o2 := by
  have h1 := heap_alloc_new (w.alloc o1) o2
  have h2 := heap_alloc_new w o1
  refine ⟨?_, by simpa using h1⟩
  rw [Below.heap_alloc _ _ _ (by simp)]
  exact h2
theorem kept {w w' : World} {g B : Nat} {o : Obj} (hb : Below B w w') (h : w.heap[g]? = some o) (hg : g < B) : w'.heap[g]? = some o := (hb.block g hg).trans h
theorem blk2 {w : World} {g : Nat} {a b : Value} {t : TypeId} (h : w.heap[g]? = some (.cells #[a, b] t (0, 0))) : (w.cell? ⟨g, 0, none⟩ = some a ∧ w.cell? ⟨g, 1, none⟩ = some b) ∧ (w.frozen? ⟨g, 0, none⟩ = false ∧ w.frozen? ⟨g, 1, none⟩ = false) := by
  have hc : ∀ j, w.cell? ⟨g, j, none⟩ = #[a, b][j]? := fun j => cell_of_row w g j _ t (0, 0) h
  have hf : ∀ j, w.frozen? ⟨g, j, none⟩ = false := fun j => by simp [World.frozen?, h]
  exact ⟨⟨hc 0, hc 1⟩, hf 0, hf 1⟩
theorem blk3 {w : World} {g : Nat} {a b c : Value} {t : TypeId} (h : w.heap[g]? = some (.cells #[a, b, c] t (0, 0))) : (w.cell? ⟨g, 0, none⟩ = some a ∧ w.cell? ⟨g, 1, none⟩ = some b ∧ w.cell? ⟨g, 2, none⟩ = some c) ∧ (w.frozen? ⟨g, 0, none⟩ = false ∧ w.frozen? ⟨g, 1, none⟩ = false ∧ w.frozen? ⟨g, 2, none⟩ = false) := by
  have hc : ∀ j, w.cell? ⟨g, j, none⟩ = #[a, b, c][j]? := fun j => cell_of_row w g j _ t (0, 0) h
  have hf : ∀ j, w.frozen? ⟨g, j, none⟩ = false := fun j => by simp [World.frozen?, h]
  exact ⟨⟨hc 0, hc 1, hc 2⟩, hf 0, hf 1, hf 2⟩
theorem blk4 {w : World} {g : Nat} {a b c d : Value} {t : TypeId} (h : w.heap[g]? = some (.cells #[a, b, c, d] t (0, 0))) : (w.cell? ⟨g, 0, none⟩ = some a ∧ w.cell? ⟨g, 1, none⟩ = some b ∧ w.cell? ⟨g, 2, none⟩ = some c ∧ w.cell? ⟨g, 3, none⟩ = some d) ∧ (w.frozen? ⟨g, 0, none⟩ = false ∧ w.frozen? ⟨g, 1, none⟩ = false ∧ w.frozen? ⟨g, 2, none⟩ = false ∧ w.frozen? ⟨g, 3, none⟩ = false) := by
  have hc : ∀ j, w.cell? ⟨g, j, none⟩ = #[a, b, c, d][j]? := fun j => cell_of_row w g j _ t (0, 0) h
  have hf : ∀ j, w.frozen? ⟨g, j, none⟩ = false := fun j => by simp [World.frozen?, h]
  exact ⟨⟨hc 0, hc 1, hc 2, hc 3⟩, hf 0, hf 1, hf 2, hf 3⟩
end Go.Proofs.YtdkijcmhjeaofaaGreatDoor
namespace Go.Proofs.YtdkijcmhjeaofaaGreatDoor
open Go.RowKit

/-- The blocks l (place, cells, type), all made since w, hold in wr what is said; old memory is as it was. -/
structure Bx (w : World) (l : List (Nat × Array Value × TypeId)) (wr : World) : Prop where
  below : Below w.heap.size w wr
  blk : ∀ (i g : Nat) (cs : Array Value) (t : TypeId), l[i]? = some (g, cs, t) → wr.heap[g]? = some (Obj.cells cs t (0, 0))
  lo : ∀ (i g : Nat) (cs : Array Value) (t : TypeId), l[i]? = some (g, cs, t) → w.heap.size ≤ g
  inj : ∀ (i j g : Nat) (cs : Array Value) (t : TypeId) (ds : Array Value) (u : TypeId), l[i]? = some (g, cs, t) → l[j]? = some (g, ds, u) → i = j

section
variable {w wr w2 : World} {l : List (Nat × Array Value × TypeId)}
theorem Bx.start (w : World) : Bx w [] w := ⟨Below.refl _ _, by simp, by simp, by simp⟩
theorem Bx.lt (h : Bx w l wr) (i : Nat) {g : Nat} {cs : Array Value} {t : TypeId} (hi : l[i]? = some (g, cs, t)) : g < wr.heap.size := (Array.getElem?_eq_some_iff.1 (h.blk i g cs t hi)).1
theorem Bx.call (h : Bx w l wr) (hb : Below wr.heap.size wr w2) : Bx w l w2 :=
  ⟨h.below.trans (hb.mono h.below.size), fun i g cs t hi => kept hb (h.blk i g cs t hi) (h.lt i hi), h.lo, h.inj⟩
theorem Bx.calld (h : Bx w l wr) (hb : Below wr.drew.heap.size wr.drew w2) : Bx w l w2 := h.call (undrew hb)
theorem Bx.drew (h : Bx w l wr) : Bx w l wr.drew := ⟨h.below.drew, h.blk, h.lo, h.inj⟩
theorem Bx.drewN (h : Bx w l wr) (n : Nat) : Bx w l (wr.drewN n) := ⟨below_drewN h.below n, h.blk, h.lo, h.inj⟩
theorem Bx.other (h : Bx w l wr) (o : Obj) : Bx w l (wr.alloc o) := h.call ((Below.refl _ _).alloc (Nat.le_refl _) o)
/-- The last one in the list is the one that was made first. -/
theorem Bx.new (h : Bx w l wr) (cs : Array Value) (t : TypeId) {N : Nat} (hN : wr.heap.size = N) : Bx w (l ++ [(N, cs, t)]) (wr.alloc (.cells cs t)) := by
  subst hN
  have h0 := h.other (Obj.cells cs t)
  have hk : ∀ (i g : Nat) (ds : Array Value) (u : TypeId), (l ++ [(wr.heap.size, cs, t)])[i]? = some (g, ds, u) → (i < l.length ∧ l[i]? = some (g, ds, u)) ∨ (i = l.length ∧ g = wr.heap.size ∧ ds = cs ∧ u = t) := by
    intro i g ds u hi
    by_cases hl : i < l.length
    · rw [List.getElem?_append_left hl] at hi; exact .inl ⟨hl, hi⟩
    · have hi' : i < (l ++ [(wr.heap.size, cs, t)]).length := (List.getElem?_eq_some_iff.1 hi).1
      simp at hi'
      have : i = l.length := by omega
      subst this
      rw [List.getElem?_append_right (Nat.le_refl _), Nat.sub_self] at hi
      simp at hi
      exact .inr ⟨rfl, hi.1.symm, hi.2.1.symm, hi.2.2.symm⟩
  refine ⟨h0.below, ?_, ?_, ?_⟩
  · intro i g ds u hi
    rcases hk i g ds u hi with ⟨_, h1⟩ | ⟨_, rfl, rfl, rfl⟩
    · exact h0.blk i g ds u h1
    · exact heap_alloc_new wr _
  · intro i g ds u hi
    rcases hk i g ds u hi with ⟨_, h1⟩ | ⟨_, rfl, rfl, rfl⟩
    · exact h.lo i g ds u h1
    · exact h.below.size
  · intro i j g ds u es v hi hj
    rcases hk i g ds u hi with ⟨_, h1⟩ | ⟨h1, rfl, _, _⟩
    · rcases hk j g es v hj with ⟨_, h2⟩ | ⟨_, rfl, _, _⟩
      · exact h.inj i j g ds u es v h1 h2
      · exact absurd (h.lt i h1) (by omega)
    · rcases hk j _ es v hj with ⟨_, h2⟩ | ⟨h2, _, _, _⟩
      · exact absurd (h.lt j h2) (by omega)
      · omega
theorem heap_setCell_at {wr : World} {g j : Nat} {cs : Array Value} {t : TypeId} (v : Value) (hg : wr.heap[g]? = some (Obj.cells cs t (0, 0))) : (wr.setCell ⟨g, j, none⟩ v).heap[g]? = some (.cells (cs.setIfInBounds j v) t (0, 0)) := by
  simp [World.setCell, Array.getElem?_modify, hg]
theorem Bx.set (h : Bx w l wr) (i j : Nat) {g : Nat} {cs : Array Value} {t : TypeId} (hi : l[i]? = some (g, cs, t)) (v : Value) :
    Bx w (l.set i (g, cs.setIfInBounds j v, t)) (wr.setCell ⟨g, j, none⟩ v) := by
  have hil : i < l.length := (List.getElem?_eq_some_iff.1 hi).1
  have hk : ∀ (k g' : Nat) (ds : Array Value) (u : TypeId), (l.set i (g, cs.setIfInBounds j v, t))[k]? = some (g', ds, u) → (k ≠ i ∧ l[k]? = some (g', ds, u)) ∨ (k = i ∧ g' = g ∧ ds = cs.setIfInBounds j v ∧ u = t) := by
    intro k g' ds u hk
    by_cases hki : k = i
    · subst hki
      rw [List.getElem?_set_self hil] at hk
      simp at hk
      exact .inr ⟨rfl, hk.1.symm, hk.2.1.symm, hk.2.2.symm⟩
    · rw [List.getElem?_set_ne (Ne.symm hki)] at hk; exact .inl ⟨hki, hk⟩
  refine ⟨h.below.setCell (h.lo i g cs t hi) v, ?_, ?_, ?_⟩
  · intro k g' ds u hk'
    rcases hk k g' ds u hk' with ⟨hne, h1⟩ | ⟨_, rfl, rfl, rfl⟩
    · have hgg : g' ≠ g := fun e => by subst e; exact hne (h.inj k i _ _ _ _ _ h1 hi)
      exact (Below.heap_setCell wr ⟨g, j, none⟩ v g' hgg).trans (h.blk k g' ds u h1)
    · exact heap_setCell_at v (h.blk i _ cs _ hi)
  · intro k g' ds u hk'
    rcases hk k g' ds u hk' with ⟨_, h1⟩ | ⟨_, rfl, _, _⟩
    · exact h.lo k g' ds u h1
    · exact h.lo i _ cs t hi
  · intro a b g' ds u es v' ha hb
    rcases hk a g' ds u ha with ⟨h0, h1⟩ | ⟨rfl, rfl, _, _⟩
    · rcases hk b g' es v' hb with ⟨_, h2⟩ | ⟨rfl, rfl, _, _⟩
      · exact h.inj a b g' ds u es v' h1 h2
      · exact h.inj a b _ ds u cs t h1 hi
    · rcases hk b _ es v' hb with ⟨_, h2⟩ | ⟨rfl, _, _, _⟩
      · exact h.inj a b _ cs t es v' hi h2
      · rfl
end

theorem setCells_splice {g : Nat} {t : TypeId} : ∀ (vs : List Value) (o : Nat) (w : World) (cs : Array Value), w.heap[g]? = some (Obj.cells cs t (0, 0)) → o + vs.length ≤ cs.size →
    (w.setCells g o vs).heap[g]? = some (Obj.cells (cs.toList.take o ++ vs ++ cs.toList.drop (o + vs.length)).toArray t (0, 0))
  | [], o, w, cs, hg, _ => by simp [World.setCells, hg]
  | v :: r, o, w, cs, hg, hl => by
    simp only [List.length_cons] at hl
    rw [World.setCells, setCells_splice r (o + 1) _ _ (heap_setCell_at v hg) (by simp; omega)]
    congr 2
    apply Array.ext'
    simp only [Array.toList_setIfInBounds, List.length_cons]
    have hs : cs.toList.set o v = cs.toList.take o ++ v :: cs.toList.drop (o + 1) := by
      rw [List.set_eq_take_append_cons_drop, if_pos (by simp; omega)]
    have e1 : (cs.toList.set o v).take (o + 1) = cs.toList.take o ++ [v] := by
      rw [hs, List.take_append, List.length_take, Nat.min_eq_left (by simp; omega), List.take_take, Nat.min_eq_right (by omega), show o + 1 - o = 1 by omega]
      rfl
    have e2 : (cs.toList.set o v).drop (o + 1 + r.length) = cs.toList.drop (o + (r.length + 1)) := by
      rw [List.drop_set_of_lt (by omega)]; congr 1; omega
    rw [e1, e2]; simp
theorem setCells_all {g : Nat} {t : TypeId} {w : World} {cs : Array Value} (hg : w.heap[g]? = some (Obj.cells cs t (0, 0))) (vs : List Value) (hl : vs.length = cs.size) :
    (w.setCells g 0 vs).heap[g]? = some (Obj.cells vs.toArray t (0, 0)) := by
  rw [setCells_splice vs 0 w cs hg (by omega)]
  have : List.drop (0 + vs.length) cs.toList = [] := List.drop_of_length_le (by simp; omega)
  rw [this]; simp
theorem below_setCells {B : Nat} {a w : World} (h : Below B a w) {g : Nat} (hg : B ≤ g) : ∀ (vs : List Value) (o : Nat), Below B a (w.setCells g o vs) := by
  intro vs
  induction vs generalizing w with
  | nil => intro o; exact h
  | cons v r ih => intro o; exact ih (h.setCell (p := ⟨g, o, none⟩) hg v) (o + 1)
section
variable {w wr : World} {l : List (Nat × Array Value × TypeId)}
theorem Bx.range (h : Bx w l wr) (i : Nat) {g : Nat} {cs : Array Value} {t : TypeId} (hi : l[i]? = some (g, cs, t)) : wr.rangeAt g 0 cs.toList := fun j v hj => by
  rw [Nat.zero_add, cell_of_row wr g j cs t (0, 0) (h.blk i g cs t hi)]; simpa using hj
theorem Bx.there (h : Bx w l wr) (i : Nat) {g : Nat} {cs : Array Value} {t : TypeId} (hi : l[i]? = some (g, cs, t)) : wr.there g 0 cs.size := fun j hj => by
  have hb := h.blk i g cs t hi
  rw [Nat.zero_add, cell_of_row wr g j cs t (0, 0) hb]
  exact ⟨by simp [hj], by simp [World.frozen?, hb]⟩
theorem Bx.setAll (h : Bx w l wr) (i : Nat) {g : Nat} {cs : Array Value} {t : TypeId} (hi : l[i]? = some (g, cs, t)) (vs : List Value) (hl : vs.length = cs.size) :
    Bx w (l.set i (g, vs.toArray, t)) (wr.setCells g 0 vs) := by
  have hil : i < l.length := (List.getElem?_eq_some_iff.1 hi).1
  have hk : ∀ (k g' : Nat) (ds : Array Value) (u : TypeId), (l.set i (g, vs.toArray, t))[k]? = some (g', ds, u) → (k ≠ i ∧ l[k]? = some (g', ds, u)) ∨ (k = i ∧ g' = g ∧ ds = vs.toArray ∧ u = t) := by
    intro k g' ds u hk
    by_cases hki : k = i
    · subst hki
      rw [List.getElem?_set_self hil] at hk
      simp at hk
      exact .inr ⟨rfl, hk.1.symm, hk.2.1.symm, hk.2.2.symm⟩
    · rw [List.getElem?_set_ne (Ne.symm hki)] at hk; exact .inl ⟨hki, hk⟩
  refine ⟨below_setCells h.below (h.lo i g cs t hi) vs 0, ?_, ?_, ?_⟩
  · intro k g' ds u hk'
    rcases hk k g' ds u hk' with ⟨hne, h1⟩ | ⟨_, rfl, rfl, rfl⟩
    · have hgg : g' ≠ g := fun e => by subst e; exact hne (h.inj k i _ _ _ _ _ h1 hi)
      exact (World.heap_setCells_other wr g 0 vs (h.lt k h1) hgg).trans (h.blk k g' ds u h1)
    · exact setCells_all (h.blk i _ cs _ hi) vs hl
  · intro k g' ds u hk'
    rcases hk k g' ds u hk' with ⟨_, h1⟩ | ⟨_, rfl, _, _⟩
    · exact h.lo k g' ds u h1
    · exact h.lo i _ cs t hi
  · intro a b g' ds u es v' ha hb
    rcases hk a g' ds u ha with ⟨h0, h1⟩ | ⟨rfl, rfl, _, _⟩
    · rcases hk b g' es v' hb with ⟨_, h2⟩ | ⟨rfl, rfl, _, _⟩
      · exact h.inj a b g' ds u es v' h1 h2
      · exact h.inj a b _ ds u cs t h1 hi
    · rcases hk b _ es v' hb with ⟨_, h2⟩ | ⟨rfl, _, _, _⟩
      · exact h.inj a b _ cs t es v' hi h2
      · rfl
end
/-- One result that lies in a cell, an aggregate. -/
theorem res_cell {P : Program} {fn : Func} {s : Nat} {t : TypeId} (hr : fn.results = #[.cell s t]) {tmps : Array Value} {w : World} {g : Nat} {cs : Array Value} {d : TypeDesc} (hs : tmps.getD s undef = .pointer (some ⟨g, 0, none⟩))
    (hc : w.rangeAt g 0 cs.toList) (hu : P.underlying t = some d) (hd : d.isRow = true) (hi : (P.info? t).map (·.size) = some cs.size) : (results fn tmps).run P w = .ok (.agg cs) w := by
  have h := run_loadVar_mid (P := P) w g 0 t cs.toList d hc hu hd (by simpa using hi)
  have e : tmps[s]?.getD undef = .pointer (some ⟨g, 0, none⟩) := by rw [← hs]; simp
  simp [results, hr, e, asAddr, h]
/-- Two results, the first in a cell, an aggregate. -/
theorem res_cell_tmp {P : Program} {fn : Func} {s u : Nat} {t : TypeId} (hr : fn.results = #[.cell s t, .tmp u]) {tmps : Array Value} {w : World} {g : Nat} {cs : Array Value} {d : TypeDesc} (hs : tmps.getD s undef = .pointer (some ⟨g, 0, none⟩))
    (hc : w.rangeAt g 0 cs.toList) (hu : P.underlying t = some d) (hd : d.isRow = true) (hi : (P.info? t).map (·.size) = some cs.size) : (results fn tmps).run P w = .ok (.tuple #[.agg cs, tmps.getD u undef]) w := by
  have h := run_loadVar_mid (P := P) w g 0 t cs.toList d hc hu hd (by simpa using hi)
  have e : tmps[s]?.getD undef = .pointer (some ⟨g, 0, none⟩) := by rw [← hs]; simp
  simp [results, hr, e, asAddr, h]
end Go.Proofs.YtdkijcmhjeaofaaGreatDoor
namespace Go.Proofs.YtdkijcmhjeaofaaGreatDoor
open Go.RowKit

theorem run_eql_slice_nil {t e : TypeId} (a : Option Addr) (l c : Nat) (h : Tryz.prog.underlying t = some (.slice e)) (w : World) : (binOp .eql t (.slice a l c) (.slice none 0 0)).run Tryz.prog w = .ok (.bool a.isNone) w := by
  simp only [binOp]
  simp [run_equal_slice_nil w t e a l c h]
/-- A slice that came in: its address is nil only if it has no elements and no room. -/
def AOk (A : Option Addr) (n c : Nat) : Prop := (A = none ∧ n = 0 ∧ c = 0) ∨ ∃ b o, A = some ⟨b, o, none⟩
theorem own_ok {w : World} {base : Nat} {e : TypeId} {sz n : Nat} {v : Value} {xs : List Value} (h : w.ownsRow base e sz v n xs) : ∃ A c, v = .slice A n c ∧ AOk A n c ∧ n ≤ c ∧ c ≤ maxLen := by
  rcases h.2 with ⟨rfl, h0⟩ | ⟨g, cap, cur, r1, _, _, r2, r3, _⟩
  · exact ⟨none, 0, by rw [h0], .inl ⟨rfl, h0, rfl⟩, by omega, by simp [maxLen]⟩
  · exact ⟨_, cap, r1, .inr ⟨g, 0, rfl⟩, r2, r3⟩

theorem infoInt : (Tryz.prog.info? 3).map (fun i => (i.zero, i.size, i.bytes)) = some (some (.int .i64 0), 1, 8) := by kernel_rfl
set_option maxHeartbeats 400000 in
theorem clipInt (A : Option Addr) (n c : Nat) (w : World) (h : n ≤ c) (_hm : c ≤ maxLen) :
    Calls Tryz.prog 61 #[.slice A n c] w (RetBelow (.slice A n n) w) := by
  unfold maxLen at _hm
  go_enter Tryz.func61, Tryz.ntmps61
  go_wp2
  go_ret
  exact ⟨rfl, Below.refl _ _⟩
set_option maxRecDepth 100000 in
set_option maxHeartbeats 1000000 in
theorem cloneInt (A : Option Addr) (n c : Nat) (xs : List Value) (w : World) (hA : AOk A n c) (h : Rd w A 1 n xs) (h1 : ∀ u ∈ xs, u.oneCell' = true) (hn : n ≤ 1000000) :
    Calls Tryz.prog 23 #[.slice A n c] w (OwnRet 3 1 n xs w) := by
  rcases hA with ⟨rfl, rfl, rfl⟩ | ⟨b, o, rfl⟩
  · have hx : xs = [] := by have := h.1; simpa using this
    subst hx
    clear hn h h1
    have heq := run_eql_slice_nil none 0 0 Tryz.underlying26
    go_enter Tryz.func23, Tryz.ntmps23
    go_wp2_with fail
    go_ret
    exact ⟨_, rfl, ⟨rfl, .inl ⟨rfl, rfl⟩⟩, Below.refl _ _⟩
  · obtain ⟨i0, hi, hz, hs, hb⟩ := info_parts infoInt
    have hown : (w.alloc (.cells #[] 3)).ownsRow w.heap.size 3 1 (.slice (some ⟨w.heap.size, 0, none⟩) 0 0) 0 [] := own_none (Nat.le_refl _) (heap_alloc_new w _) (Nat.le_refl _) (by simp [maxLen]) rfl
    obtain ⟨v', w', hr, h2, h3⟩ := run_append_rdK (P := Tryz.prog) (w.alloc (.cells #[] 3)) w.heap.size 26 26 3 i0 _ 1 8 Tryz.underlying26 hi hz hs hb rfl (by decide) _ 0 [] hown (some ⟨b, o, none⟩) n c xs h1 (h.alloc _) (fun h => by cases h) (by omega) (by decide) (by simp)
    rw [Nat.zero_add, List.nil_append] at h2
    have hbw : Below w.heap.size w w' := ((Below.refl _ _).alloc (Nat.le_refl _) _).grown h3 (by simp) (fun k hk => by simp [Value.ownBlock] at hk; omega)
    clear hown h3 hi hz hs hb h1 h hn
    have heq := run_eql_slice_nil (some ⟨b, o, none⟩) n c Tryz.underlying26
    go_enter Tryz.func23, Tryz.ntmps23
    go_wp2_with (at_builtin; refine Lib.wpList_append_run _ rfl _ _ _ _ rfl _ _ rfl rfl _ _ hr ?_)
    go_ret
    exact ⟨v', rfl, h2, hbw⟩

theorem infoCr : (Tryz.prog.info? 219).map (fun i => (i.zero, i.size, i.bytes)) = some (some (.agg #[.int .i64 0, .int .u8 0, .int .u8 0]), 3, 16) := by kernel_rfl
set_option maxHeartbeats 400000 in
theorem clipCr (A : Option Addr) (n c : Nat) (w : World) (h : n ≤ c) (_hm : c ≤ maxLen) :
    Calls Tryz.prog 170 #[.slice A n c] w (RetBelow (.slice A n n) w) := by
  unfold maxLen at _hm
  go_enter Tryz.func170, Tryz.ntmps170
  go_wp2
  go_ret
  exact ⟨rfl, Below.refl _ _⟩
set_option maxRecDepth 100000 in
set_option maxHeartbeats 1000000 in
theorem cloneCr (A : Option Addr) (n c : Nat) (xs : List Value) (w : World) (hA : AOk A n c) (h : Rd w A 3 n xs) (h1 : ∀ u ∈ xs, u.oneCell' = true) (hn : n ≤ 1000000) :
    Calls Tryz.prog 165 #[.slice A n c] w (OwnRet 219 3 n xs w) := by
  rcases hA with ⟨rfl, rfl, rfl⟩ | ⟨b, o, rfl⟩
  · have hx : xs = [] := by have := h.1; simpa using this
    subst hx
    clear hn h h1
    have heq := run_eql_slice_nil none 0 0 Tryz.underlying64
    go_enter Tryz.func165, Tryz.ntmps165
    go_wp2_with fail
    go_ret
    exact ⟨_, rfl, ⟨rfl, .inl ⟨rfl, rfl⟩⟩, Below.refl _ _⟩
  · obtain ⟨i0, hi, hz, hs, hb⟩ := info_parts infoCr
    have hown : (w.alloc (.cells #[] 219)).ownsRow w.heap.size 219 3 (.slice (some ⟨w.heap.size, 0, none⟩) 0 0) 0 [] := own_none (Nat.le_refl _) (heap_alloc_new w _) (Nat.le_refl _) (by simp [maxLen]) rfl
    obtain ⟨v', w', hr, h2, h3⟩ := run_append_rdK (P := Tryz.prog) (w.alloc (.cells #[] 219)) w.heap.size 64 64 219 i0 _ 3 16 Tryz.underlying64 hi hz hs hb rfl (by decide) _ 0 [] hown (some ⟨b, o, none⟩) n c xs h1 (h.alloc _) (fun h => by cases h) (by omega) (by decide) (by simp)
    rw [Nat.zero_add, List.nil_append] at h2
    have hbw : Below w.heap.size w w' := ((Below.refl _ _).alloc (Nat.le_refl _) _).grown h3 (by simp) (fun k hk => by simp [Value.ownBlock] at hk; omega)
    clear hown h3 hi hz hs hb h1 h hn
    have heq := run_eql_slice_nil (some ⟨b, o, none⟩) n c Tryz.underlying64
    go_enter Tryz.func165, Tryz.ntmps165
    go_wp2_with (at_builtin; refine Lib.wpList_append_run _ rfl _ _ _ _ rfl _ _ rfl rfl _ _ hr ?_)
    go_ret
    exact ⟨v', rfl, h2, hbw⟩

theorem infoStk : (Tryz.prog.info? 113).map (fun i => (i.zero, i.size, i.bytes)) = some (some (.agg #[.int .i64 0, .int .i64 0, .int .u8 0, .slice none 0 0]), 4, 48) := by kernel_rfl
set_option maxHeartbeats 400000 in
theorem clipStk (A : Option Addr) (n c : Nat) (w : World) (h : n ≤ c) (_hm : c ≤ maxLen) :
    Calls Tryz.prog 146 #[.slice A n c] w (RetBelow (.slice A n n) w) := by
  unfold maxLen at _hm
  go_enter Tryz.func146, Tryz.ntmps146
  go_wp2
  go_ret
  exact ⟨rfl, Below.refl _ _⟩
set_option maxRecDepth 100000 in
set_option maxHeartbeats 1000000 in
theorem cloneStk (A : Option Addr) (n c : Nat) (xs : List Value) (w : World) (hA : AOk A n c) (h : Rd w A 4 n xs) (h1 : ∀ u ∈ xs, u.oneCell' = true) (hn : n ≤ 1000000) :
    Calls Tryz.prog 147 #[.slice A n c] w (OwnRet 113 4 n xs w) := by
  rcases hA with ⟨rfl, rfl, rfl⟩ | ⟨b, o, rfl⟩
  · have hx : xs = [] := by have := h.1; simpa using this
    subst hx
    clear hn h h1
    have heq := run_eql_slice_nil none 0 0 Tryz.underlying69
    go_enter Tryz.func147, Tryz.ntmps147
    go_wp2_with fail
    go_ret
    exact ⟨_, rfl, ⟨rfl, .inl ⟨rfl, rfl⟩⟩, Below.refl _ _⟩
  · obtain ⟨i0, hi, hz, hs, hb⟩ := info_parts infoStk
    have hown : (w.alloc (.cells #[] 113)).ownsRow w.heap.size 113 4 (.slice (some ⟨w.heap.size, 0, none⟩) 0 0) 0 [] := own_none (Nat.le_refl _) (heap_alloc_new w _) (Nat.le_refl _) (by simp [maxLen]) rfl
    obtain ⟨v', w', hr, h2, h3⟩ := run_append_rdK (P := Tryz.prog) (w.alloc (.cells #[] 113)) w.heap.size 69 69 113 i0 _ 4 48 Tryz.underlying69 hi hz hs hb rfl (by decide) _ 0 [] hown (some ⟨b, o, none⟩) n c xs h1 (h.alloc _) (fun h => by cases h) (by omega) (by decide) (by simp)
    rw [Nat.zero_add, List.nil_append] at h2
    have hbw : Below w.heap.size w w' := ((Below.refl _ _).alloc (Nat.le_refl _) _).grown h3 (by simp) (fun k hk => by simp [Value.ownBlock] at hk; omega)
    clear hown h3 hi hz hs hb h1 h hn
    have heq := run_eql_slice_nil (some ⟨b, o, none⟩) n c Tryz.underlying69
    go_enter Tryz.func147, Tryz.ntmps147
    go_wp2_with (at_builtin; refine Lib.wpList_append_run _ rfl _ _ _ _ rfl _ _ rfl rfl _ _ hr ?_)
    go_ret
    exact ⟨v', rfl, h2, hbw⟩

theorem infoPass : (Tryz.prog.info? 388).map (fun i => (i.zero, i.size, i.bytes)) = some (some (.agg #[.int .i64 0, .int .i64 0]), 2, 16) := by kernel_rfl
set_option maxHeartbeats 400000 in
theorem clipPass (A : Option Addr) (n c : Nat) (w : World) (h : n ≤ c) (_hm : c ≤ maxLen) :
    Calls Tryz.prog 259 #[.slice A n c] w (RetBelow (.slice A n n) w) := by
  unfold maxLen at _hm
  go_enter Tryz.func259, Tryz.ntmps259
  go_wp2
  go_ret
  exact ⟨rfl, Below.refl _ _⟩
set_option maxRecDepth 100000 in
set_option maxHeartbeats 1000000 in
theorem clonePass (A : Option Addr) (n c : Nat) (xs : List Value) (w : World) (hA : AOk A n c) (h : Rd w A 2 n xs) (h1 : ∀ u ∈ xs, u.oneCell' = true) (hn : n ≤ 1000000) :
    Calls Tryz.prog 260 #[.slice A n c] w (OwnRet 388 2 n xs w) := by
  rcases hA with ⟨rfl, rfl, rfl⟩ | ⟨b, o, rfl⟩
  · have hx : xs = [] := by have := h.1; simpa using this
    subst hx
    clear hn h h1
    have heq := run_eql_slice_nil none 0 0 Tryz.underlying280
    go_enter Tryz.func260, Tryz.ntmps260
    go_wp2_with fail
    go_ret
    exact ⟨_, rfl, ⟨rfl, .inl ⟨rfl, rfl⟩⟩, Below.refl _ _⟩
  · obtain ⟨i0, hi, hz, hs, hb⟩ := info_parts infoPass
    have hown : (w.alloc (.cells #[] 388)).ownsRow w.heap.size 388 2 (.slice (some ⟨w.heap.size, 0, none⟩) 0 0) 0 [] := own_none (Nat.le_refl _) (heap_alloc_new w _) (Nat.le_refl _) (by simp [maxLen]) rfl
    obtain ⟨v', w', hr, h2, h3⟩ := run_append_rdK (P := Tryz.prog) (w.alloc (.cells #[] 388)) w.heap.size 280 280 388 i0 _ 2 16 Tryz.underlying280 hi hz hs hb rfl (by decide) _ 0 [] hown (some ⟨b, o, none⟩) n c xs h1 (h.alloc _) (fun h => by cases h) (by omega) (by decide) (by simp)
    rw [Nat.zero_add, List.nil_append] at h2
    have hbw : Below w.heap.size w w' := ((Below.refl _ _).alloc (Nat.le_refl _) _).grown h3 (by simp) (fun k hk => by simp [Value.ownBlock] at hk; omega)
    clear hown h3 hi hz hs hb h1 h hn
    have heq := run_eql_slice_nil (some ⟨b, o, none⟩) n c Tryz.underlying280
    go_enter Tryz.func260, Tryz.ntmps260
    go_wp2_with (at_builtin; refine Lib.wpList_append_run _ rfl _ _ _ _ rfl _ _ rfl rfl _ _ hr ?_)
    go_ret
    exact ⟨v', rfl, h2, hbw⟩

theorem infoLoop : (Tryz.prog.info? 286).map (fun i => (i.zero, i.size, i.bytes)) = some (some (.agg #[.int .u8 0, .int .i64 0, .int .i64 0]), 3, 24) := by kernel_rfl
set_option maxHeartbeats 400000 in
theorem clipLoop (A : Option Addr) (n c : Nat) (w : World) (h : n ≤ c) (_hm : c ≤ maxLen) :
    Calls Tryz.prog 261 #[.slice A n c] w (RetBelow (.slice A n n) w) := by
  unfold maxLen at _hm
  go_enter Tryz.func261, Tryz.ntmps261
  go_wp2
  go_ret
  exact ⟨rfl, Below.refl _ _⟩
set_option maxRecDepth 100000 in
set_option maxHeartbeats 1000000 in
theorem cloneLoop (A : Option Addr) (n c : Nat) (xs : List Value) (w : World) (hA : AOk A n c) (h : Rd w A 3 n xs) (h1 : ∀ u ∈ xs, u.oneCell' = true) (hn : n ≤ 1000000) :
    Calls Tryz.prog 262 #[.slice A n c] w (OwnRet 286 3 n xs w) := by
  rcases hA with ⟨rfl, rfl, rfl⟩ | ⟨b, o, rfl⟩
  · have hx : xs = [] := by have := h.1; simpa using this
    subst hx
    clear hn h h1
    have heq := run_eql_slice_nil none 0 0 Tryz.underlying281
    go_enter Tryz.func262, Tryz.ntmps262
    go_wp2_with fail
    go_ret
    exact ⟨_, rfl, ⟨rfl, .inl ⟨rfl, rfl⟩⟩, Below.refl _ _⟩
  · obtain ⟨i0, hi, hz, hs, hb⟩ := info_parts infoLoop
    have hown : (w.alloc (.cells #[] 286)).ownsRow w.heap.size 286 3 (.slice (some ⟨w.heap.size, 0, none⟩) 0 0) 0 [] := own_none (Nat.le_refl _) (heap_alloc_new w _) (Nat.le_refl _) (by simp [maxLen]) rfl
    obtain ⟨v', w', hr, h2, h3⟩ := run_append_rdK (P := Tryz.prog) (w.alloc (.cells #[] 286)) w.heap.size 281 281 286 i0 _ 3 24 Tryz.underlying281 hi hz hs hb rfl (by decide) _ 0 [] hown (some ⟨b, o, none⟩) n c xs h1 (h.alloc _) (fun h => by cases h) (by omega) (by decide) (by simp)
    rw [Nat.zero_add, List.nil_append] at h2
    have hbw : Below w.heap.size w w' := ((Below.refl _ _).alloc (Nat.le_refl _) _).grown h3 (by simp) (fun k hk => by simp [Value.ownBlock] at hk; omega)
    clear hown h3 hi hz hs hb h1 h hn
    have heq := run_eql_slice_nil (some ⟨b, o, none⟩) n c Tryz.underlying281
    go_enter Tryz.func262, Tryz.ntmps262
    go_wp2_with (at_builtin; refine Lib.wpList_append_run _ rfl _ _ _ _ rfl _ _ rfl rfl _ _ hr ?_)
    go_ret
    exact ⟨v', rfl, h2, hbw⟩
end Go.Proofs.YtdkijcmhjeaofaaGreatDoor
