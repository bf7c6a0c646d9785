/- Joined texts. A closed-run executor, part 41: regions that draw their order are as the model has them; the whole executor. The one condition: the program follows the mixed orders. · A closed-run executor, part 42: functions of the library that have no body: abi.NoEscape, bytealg.CountString, IndexByteString. No program is named; no condition. · A closed-run executor, part 43: a call whose run the kernel has made elsewhere, on a small memory, is known. No program is named; no condition. · The executor at this program: the externs that it knows, and what a closed run proves. · Contracts of package lines: Check, CheckPoint, along, Side. -/
import Derived.Test.YtdkijcmhjeaofaaGreatDoorQFo
import Derived.Laws.Externs
import Derived.Lib.Bytealg
import Derived.Test.YtdkijcmhjeaofaaGreatDoorProg
import Derived.Test.YtdkijcmhjeaofaaGreatDoorChecked
import Derived.Test.YtdkijcmhjeaofaaGreatDoorQCln
import Derived.KernelRfl
import Derived.Test.YtdkijcmhjeaofaaGreatDoorQEc
import Derived.Deep.RegionHeld3
namespace Go.Proofs.YtdkijcmhjeaofaaGreatDoor
namespace Ex

variable {P : Program} {K : Nat} {ext : FuncId → List AV → Option AV} {call : FuncId → List AV → St → CRes} {ops : Array Oper} {f0 : Fm} {S : St}

theorem good_of {fr : Tr AV} {recs : List Rec} {E : List (Nat × St)} {M : St} (hd : dstsOk f0.n ops.toList = true) (hbk : backOk ops.toList 0 = true) (hn : f0.n < 1048575) (hlim : S.next + ops.size < 1048575)
    (ht : tr K P ext call ops.toList (fun o => o.looksAt ops) ops.size f0 S ops.toList 0 [] [] ⟨S.heap, S.next + ops.size⟩ = .ok recs E M)
    (hrd : ∀ (i : Nat) (o : Oper) (v : AV) (t : Tr AV), ops[i]? = some o → recs[i]? = some (.read v) → seeG ops.toList f0 recs (preds o) (fun k => isAnc ops.toList ops.size k i) (o.looksAt ops) = some t →
      ((∃ p ∈ E, isAnc ops.toList ops.size i p.1 = true) ∨ readOp P ⟨t, f0.n⟩ ⟨S.heap, S.next + ops.size⟩ o = some v) ∧
      ∀ p ∈ E, isAnc ops.toList ops.size p.1 i = true ∨ (∃ q ∈ E, isAnc ops.toList ops.size i q.1 = true ∧ isAnc ops.toList ops.size q.1 p.1 = true) ∨ readOp P ⟨t, f0.n⟩ p.2 o = some v)
    (hfrm : ∀ s v, fr.at s = some v → (∃ (j : Nat) (oj : Oper) (r : Rec), ops[j]? = some oj ∧ oj.dst = some s ∧ recs[j]? = some r ∧ v = r.out) ∨ ((∀ (j : Nat) (oj : Oper), ops[j]? = some oj → oj.dst ≠ some s) ∧ f0.t.at s = some v)) :
    (Tc.mk ops f0 S recs).Good K P ext call ⟨fr, f0.n⟩ (absorbP (fun k => not (E.any fun p => isAnc ops.toList ops.size p.1 k)) recs 0 M) := by
  have hb : ∀ (i : Nat) (o : Oper) (j : Nat), ops[i]? = some o → j ∈ preds o → j < i := fun i o j hi hj => by
    have := backOk_ok hbk i o j (by simpa using hi) hj; omega
  have hrun := tr_run ops.toList 0 [] [] _ (fun j => by simp) Run.nil ht
  have F := run_facts hb hlim hrun
  have hlen : recs.length = ops.size := by rw [F.len]; simp
  obtain ⟨d1, d2⟩ := dstsOk_ok hd
  have isE : ∀ {e : Nat}, (Tc.mk ops f0 S recs).IsE e → ∃ N, (e, N) ∈ E := fun ⟨Ma, M1, v, h⟩ => ⟨M1, F.e1 _ v Ma M1 h⟩
  have ofE : ∀ {e : Nat} {N : St}, (e, N) ∈ E → ∃ Ma, (Tc.mk ops f0 S recs).Ef e Ma N := fun hm => by
    obtain ⟨_, v, Ma, h⟩ := F.e2 _ _ hm; exact ⟨Ma, v, h⟩
  have ltE : ∀ {e : Nat} {N : St}, (e, N) ∈ E → e < ops.size := fun hm => by have := (F.e2 _ _ hm).1; simpa using this
  have idlt : ∀ (i id : Nat) (B : AB) (v : AV), recs[i]? = some (.mk id B v) → id < 1048575 := fun i id B v h => by
    have := F.ids i id B v h
    have hk : i < recs.length := by
      by_cases h' : i < recs.length
      · exact h'
      · rw [List.getElem?_eq_none (by omega)] at h; cases h
    omega
  have iduniq : ∀ (i j id : Nat) (B B' : AB) (v v' : AV), recs[i]? = some (.mk id B v) → recs[j]? = some (.mk id B' v') → i = j := fun i j id B B' v v' h1 h2 => by
    have := F.ids i id B v h1; have := F.ids j id B' v' h2; omega
  have efU : ∀ {e : Nat} {Ma N Ma' N' : St}, (Tc.mk ops f0 S recs).Ef e Ma N → (Tc.mk ops f0 S recs).Ef e Ma' N' → N = N' := by
    rintro e Ma N Ma' N' ⟨v, h⟩ ⟨v', h'⟩
    have h : recs[e]? = _ := h
    have h' : recs[e]? = _ := h'
    rw [h] at h'; injection h' with h'; injection h'
  exact {
    len := hlen
    lim := hlim
    dsts := fun i j oi oj d hi hj => d2 i j oi oj d (by simpa using hi) (by simpa using hj)
    fits := ⟨hn, fun i o d hi => d1 i o d (by simpa using hi)⟩
    chain := fun e e' he he' => by
      obtain ⟨N, hm⟩ := isE he; obtain ⟨N', hm'⟩ := isE he'
      rcases Nat.lt_trichotomy e e' with h | h | h
      · exact .inr (.inr (F.e3 e e' N N' hm hm' h))
      · exact .inl h
      · exact .inr (.inl (F.e3 e' e N' N hm' hm h))
    irr := fun e _ h => absurd (anc_lt hb h) (Nat.lt_irrefl _)
    back := hb
    ids := F.ids
    op := fun i o r ho hr => by
      obtain ⟨t, h1, h2⟩ := F.op i o r ho hr
      refine ⟨⟨t, f0.n⟩, ⟨rfl, fun s v hs => seeG_ok (fun j hj => isAnc_ok hj) (fun a b oa ob d ha hb' => d2 a b oa ob d (by simpa using ha) (by simpa using hb')) h1 s v hs⟩, ?_⟩
      cases r with
      | skip => exact h2
      | val v => exact h2
      | mk id B v => exact h2
      | eff v Ma M1 => exact h2
      | read v =>
        refine ⟨h2, fun L N hdn hnl hp hc => ?_⟩
        have hr' := hrd i o v t ho hr h1
        have anc : ∀ {k : Nat}, Anc ops i k → Lst L k := by
          intro k ha
          cases ha with
          | one hq hj => rw [ho] at hq; injection hq with hq; subst hq; exact hp _ hj
          | more hq hj ha => rw [ho] at hq; injection hq with hq; subst hq; exact ha.lst hdn (hp _ hj)
        rcases hc with ⟨c1, c2⟩ | ⟨e, Ma, c1, c2, c3⟩
        · have c2 : N = ⟨S.heap, S.next + ops.size⟩ := c2
          subst c2
          rcases hr'.1 with ⟨p, hp1, hp2⟩ | h
          · obtain ⟨Ma, hE⟩ := ofE hp1
            exact absurd (anc (isAnc_ok hp2)) (c1 p.1 ⟨_, _, hE⟩)
          · exact h
        · obtain ⟨u, hu⟩ := c1
          have hm := F.e1 e u Ma N hu
          rcases hr'.2 _ hm with h | ⟨q, hq1, hq2⟩ | h
          · exact absurd ((isAnc_ok h).lst hdn c2) hnl
          · obtain ⟨Mq, hEq⟩ := ofE hq1
            have hlq := anc (isAnc_ok hq2.1)
            have hlt := anc_lt hb (isAnc_ok hq2.2)
            rcases c3 q.1 ⟨_, _, hEq⟩ hlq with h | h
            · have hlt : e < q.1 := hlt
              omega
            · have := anc_lt hb h
              have hlt : e < q.1 := hlt
              have : q.1 < e := this
              omega
          · exact h
    absorb := by
      rintro e Ma M1 ⟨v, h⟩
      obtain ⟨Mp, q1, q2, q3⟩ := F.e5 e v Ma M1 h
      refine ⟨Mp, ?_, q2, fun id A hA => ?_⟩
      · rcases q1 with ⟨r1, r2⟩ | ⟨e', r1, r2, r3⟩
        · exact .inl ⟨fun e' he' ha => by obtain ⟨N, hm⟩ := isE he'; exact r1 e' N hm (anc_lt hb ha), r2⟩
        · obtain ⟨Me, hEe⟩ := ofE r1
          have hme := F.e1 e v Ma M1 h
          refine .inr ⟨e', Me, hEe, F.e3 e' e Mp M1 r1 hme r2, fun e'' he'' ha => ?_⟩
          obtain ⟨N, hm⟩ := isE he''
          have hle := r3 e'' N hm (anc_lt hb ha)
          rcases Nat.lt_or_eq_of_le hle with hl | hl
          · exact .inr (F.e3 e'' e' N Mp hm r1 hl)
          · exact .inl hl
      · rcases q3 id A hA with h | ⟨k, u, h1, h2, h3⟩
        · exact .inl h
        · exact .inr ⟨k, u, h1, h2, fun e' he' ha => by obtain ⟨N, hm⟩ := isE he'; exact h3 e' N hm (anc_lt hb ha)⟩
    last := fun L N hall hc => by
      have hM : N = M := by
        rcases F.e4 with ⟨r1, r2⟩ | ⟨eL, r1, r2⟩
        · rcases hc with ⟨_, c2⟩ | ⟨e, Ma, c1, _, _⟩
          · have c2 : N = ⟨S.heap, S.next + ops.size⟩ := c2
            rw [c2, r2]
          · obtain ⟨N', hm⟩ := isE ⟨_, _, c1⟩
            rw [r1] at hm; simp at hm
        · obtain ⟨ML, hEL⟩ := ofE r1
          rcases hc with ⟨c1, _⟩ | ⟨e, Ma, c1, c2, c3⟩
          · exact absurd (hall eL (ltE r1)) (c1 eL ⟨_, _, hEL⟩)
          · obtain ⟨N', hm⟩ := isE ⟨_, _, c1⟩
            have h1 := r2 e N' hm
            rcases c3 eL ⟨_, _, hEL⟩ (hall eL (ltE r1)) with h | h
            · subst h; exact efU c1 hEL
            · have : eL < e := anc_lt hb h
              omega
      subst hM
      refine ⟨absorbP_next _ _ _ _, fun H hH id A hA => ?_⟩
      have flc : ∀ {k : Nat}, (¬ (Tc.mk ops f0 S recs).Abs L k) → (not (E.any fun p => isAnc ops.toList ops.size p.1 k)) = true := by
        intro k hna
        rw [Bool.not_eq_true', List.any_eq_false]
        intro p hp ha
        obtain ⟨Mq, hEq⟩ := ofE hp
        exact hna ⟨p.1, ⟨_, _, hEq⟩, hall p.1 (ltE hp), isAnc_ok ha⟩
      have fla : ∀ {k : Nat}, (not (E.any fun p => isAnc ops.toList ops.size p.1 k)) = true → ¬ (Tc.mk ops f0 S recs).Abs L k := by
        rintro k hk ⟨e, he, _, ha⟩
        obtain ⟨N', hm⟩ := isE he
        rw [Bool.not_eq_true', List.any_eq_false] at hk
        exact hk _ hm (isAnc_all hb ha _ (ltE hm))
      have klt : ∀ {k : Nat} {r : Rec}, recs[k]? = some r → k < ops.size := by
        intro k r h
        by_cases h' : k < recs.length
        · omega
        · rw [List.getElem?_eq_none (by omega)] at h; cases h
      by_cases hfl : ∃ B, (Tc.mk ops f0 S recs).Fl L id B
      · obtain ⟨B, k, u, hk, hl, hna⟩ := hfl
        have hhit := absorbP_hit (fun k => not (E.any fun p => isAnc ops.toList ops.size p.1 k)) recs 0 N iduniq idlt k id B u hk (by rw [Nat.zero_add]; exact flc hna)
        rw [hhit] at hA; injection hA with hA; subst hA
        exact hH.1 id B ⟨k, u, hk, hl, hna⟩
      · rcases absorbP_at _ recs 0 N idlt id A hA with h | ⟨k, u, h1, h2⟩
        · rw [hH.2 id fun B hB => hfl ⟨B, hB⟩]; exact h
        · rw [Nat.zero_add] at h2
          exact absurd ⟨A, k, u, h1, hall k (klt h1), fla h2⟩ hfl
    frame := ⟨rfl, hfrm⟩ }

/-! The pass with the whole frame. -/
inductive T2 where
  | ok (fr : Tr AV) (mks : List (Nat × Nat × AB)) (rds : List (Nat × Oper × AV × Tr AV)) (E : List (Nat × St)) (M : St)
  | no (why : List Nat)
noncomputable def nxC {γ : Type} (d : Option Nat) (v : AV) (fr : Tr AV) (k : Tr AV → γ) : γ := match d with
  | none => k fr
  | some d => forceV v fun v => headC (fr.to d v) k
noncomputable def nx2 (d : Option Nat) (v : AV) (fr : Tr AV) : Tr AV := match d with
  | none => fr
  | some d => fr.to d v
theorem nxC_eq {γ : Type} (d : Option Nat) (v : AV) (fr : Tr AV) (k : Tr AV → γ) : nxC d v fr k = k (nx2 d v fr) := by
  cases d with
  | none => rfl
  | some d => unfold nxC nx2; simp only [forceV_eq, headC_eq]
noncomputable def anyE (c : Nat → Bool) (E : List (Nat × St)) : Bool := List.rec false (fun p _ ih => Bool.rec ih true (Prod.rec (fun e _ => c e) p)) E
theorem anyE_eq (c : Nat → Bool) : ∀ E : List (Nat × St), anyE c E = E.any fun p => c p.1
  | [] => rfl
  | p :: E => by
    show (Bool.rec (anyE c E) true (c p.1) : Bool) = _
    rw [List.any_cons, anyE_eq c E]
    cases c p.1 <;> rfl
noncomputable def allE (c : Nat → Bool) (E : List (Nat × St)) : Bool := List.rec true (fun p _ ih => Bool.rec false ih (Prod.rec (fun e _ => c e) p)) E
theorem allE_eq (c : Nat → Bool) : ∀ E : List (Nat × St), allE c E = E.all fun p => c p.1
  | [] => rfl
  | p :: E => by
    show (Bool.rec false (allE c E) (c p.1) : Bool) = _
    rw [List.all_cons, allE_eq c E]
    cases c p.1 <;> rfl
noncomputable def absorbM (c : Nat → Bool) (mks : List (Nat × Nat × AB)) : St → St :=
  List.rec (motive := fun _ => St → St) (fun M => M) (fun p _ ih M => Prod.rec (fun k q => Prod.rec (fun id B => Bool.rec (ih M) (ih ⟨M.heap.to id B, M.next⟩) (c k)) q) p) mks
noncomputable def mksOf : List Rec → Nat → List (Nat × Nat × AB)
  | [], _ => []
  | .mk id B _ :: l, k => (k, id, B) :: mksOf l (k + 1)
  | _ :: l, k => mksOf l (k + 1)
theorem absorbM_eq (c : Nat → Bool) : ∀ (recs : List Rec) (k : Nat) (M : St), absorbM c (mksOf recs k) M = absorbP c recs k M
  | [], _, _ => rfl
  | r :: recs, k, M => by
    cases r with
    | mk id B v =>
      show (Bool.rec (absorbM c (mksOf recs (k + 1)) M) (absorbM c (mksOf recs (k + 1)) ⟨M.heap.to id B, M.next⟩) (c k) : St) = (Bool.rec (absorbP c recs (k + 1) M) (absorbP c recs (k + 1) ⟨M.heap.to id B, M.next⟩) (c k) : St)
      rw [absorbM_eq, absorbM_eq]
    | skip => exact absorbM_eq c recs (k + 1) M
    | val _ => exact absorbM_eq c recs (k + 1) M
    | read _ => exact absorbM_eq c recs (k + 1) M
    | eff _ _ _ => exact absorbM_eq c recs (k + 1) M
theorem mksOf_snoc (r : Rec) : ∀ (recs : List Rec) (k : Nat), mksOf (recs ++ [r]) k = mksOf recs k ++ mksOf [r] (k + recs.length)
  | [], k => by simp [mksOf]
  | q :: recs, k => by
    have ih := mksOf_snoc r recs (k + 1)
    have e : k + 1 + recs.length = k + (q :: recs).length := by simp; omega
    rw [e] at ih
    cases q <;> simp only [List.cons_append, mksOf, ih]

/-- Each slot that an operation looks at is written by none, or by one that must come before. -/
noncomputable def lkOk (ops : List Oper) (ps : List Nat) (an : Nat → Bool) (ts : List Nat) : Bool :=
  ts.all fun t => Nat.blt t 1048575 && (match writer t ops with
    | none => true
    | some j => ps.any (Nat.beq j) || an j)
noncomputable def seeF (fr : Tr AV) (ts : List Nat) : Tr AV := List.rec .e (fun t _ ih => Option.rec ih (fun v => ih.to t v) (fr.at t)) ts

theorem seeF_at {fr : Tr AV} : ∀ {ts : List Nat}, (∀ s ∈ ts, s < 1048575) → ∀ s ∈ ts, (seeF fr ts).at s = fr.at s
  | [], _, s, hs => by simp at hs
  | t :: ts, hl, s, hs => by
    have e : seeF fr (t :: ts) = (Option.rec (seeF fr ts) (fun v => (seeF fr ts).to t v) (fr.at t) : Tr AV) := rfl
    have key : ∀ s, s ∈ ts ∨ s ∉ ts → s ≠ t → (seeF fr (t :: ts)).at s = (seeF fr ts).at s := by
      intro s _ hne
      rw [e]
      cases fr.at t with
      | none => rfl
      | some v => show ((seeF fr ts).to t v).at s = _; rw [Tr.at_to _ _ _ _ (hl t (by simp)), if_neg hne]
    by_cases hst : s = t
    · subst hst
      rw [e]
      cases hf : fr.at s with
      | none =>
        show (seeF fr ts).at s = none
        by_cases hm : s ∈ ts
        · rw [seeF_at (fun s hs => hl s (List.mem_cons_of_mem _ hs)) s hm, hf]
        · exact seeF_out hm
      | some v => show ((seeF fr ts).to s v).at s = _; rw [Tr.at_to _ _ _ _ (hl s (by simp)), if_pos rfl]
    · have hm : s ∈ ts := by
        rcases List.mem_cons.1 hs with h | h
        · exact absurd h hst
        · exact h
      rw [key s (.inl hm) hst]
      exact seeF_at (fun s hs => hl s (List.mem_cons_of_mem _ hs)) s hm
where
  seeF_out : ∀ {ts : List Nat} {s : Nat}, s ∉ ts → (seeF fr ts).at s = none
  | [], s, _ => Tr.at_e s
  | t :: ts, s, h => by
    have e : seeF fr (t :: ts) = (Option.rec (seeF fr ts) (fun v => (seeF fr ts).to t v) (fr.at t) : Tr AV) := rfl
    have h1 : s ≠ t := fun e => h (by simp [e])
    have h2 : s ∉ ts := fun e => h (List.mem_cons_of_mem _ e)
    rw [e]
    cases fr.at t with
    | none => exact seeF_out h2
    | some v =>
      show ((seeF fr ts).to t v).at s = none
      unfold Tr.at
      rw [Tr.to_put, Tr.get_put_ne _ _ _ _ _ (by omega) (by omega) (by omega)]
      exact seeF_out h2
theorem lkOk_lt {ops : List Oper} {ps : List Nat} {an : Nat → Bool} {ts : List Nat} (h : lkOk ops ps an ts = true) : ∀ s ∈ ts, s < 1048575 := by
  intro s hs
  unfold lkOk at h
  rw [List.all_eq_true] at h
  have := h s hs
  rw [Bool.and_eq_true, Nat.blt_eq] at this
  exact this.1

/-- The whole frame when some operations have been gone through. -/
structure Fr2 (ops : List Oper) (f0 : Fm) (recs : List Rec) (fr : Tr AV) : Prop where
  old : ∀ t, writer t ops = none → fr.at t = f0.t.at t
  out : ∀ t j r, writer t ops = some j → recs[j]? = some r → fr.at t = some r.out
  yet : ∀ t j, writer t ops = some j → recs.length ≤ j → fr.at t = f0.t.at t

theorem seeG_eq {fr : Tr AV} {recs : List Rec} {l : List Oper} {ps : List Nat} {an : Nat → Bool} (hF : Fr2 l f0 recs fr) (hps : ∀ j ∈ ps, j < recs.length) (han : ∀ j, an j = true → recs.length ≤ j) :
    ∀ {ts : List Nat}, lkOk l ps an ts = true → seeG l f0 recs ps an ts = some (seeF fr ts)
  | [], _ => rfl
  | t :: ts, h => by
    unfold lkOk at h
    rw [List.all_cons, Bool.and_eq_true, Bool.and_eq_true] at h
    have ih := seeG_eq hF hps han (ts := ts) h.2
    show (match seeG l f0 recs ps an ts with
      | none => none
      | some tr => match Nat.blt t 1048575, slotOf l f0 recs ps an t with
        | true, some (some v) => some (tr.to t v)
        | true, some none => some tr
        | _, _ => none) = some (Option.rec (seeF fr ts) (fun v => (seeF fr ts).to t v) (fr.at t) : Tr AV)
    rw [ih, h.1.1]
    unfold slotOf
    cases hw : writer t l with
    | none =>
      rw [← hF.old t hw]
      simp only
      cases fr.at t <;> rfl
    | some j =>
      have hp := h.1.2
      rw [hw] at hp
      simp only [Bool.or_eq_true] at hp ⊢
      cases hpj : ps.any (Nat.beq j) with
      | true =>
        have hj : j < recs.length := by
          rw [List.any_eq_true] at hpj
          obtain ⟨q, hq, e⟩ := hpj
          have := Nat.eq_of_beq_eq_true e; subst this
          exact hps _ hq
        have hr : recs[j]? = some recs[j] := List.getElem?_eq_getElem hj
        rw [hF.out t j _ hw hr, hr]
      | false =>
        rw [hpj] at hp
        have ha : an j = true := by simpa using hp
        have hle := han j ha
        rw [List.getElem?_eq_none hle]
        simp only
        rw [ha, ← hF.yet t j hw hle]
        simp only
        cases fr.at t <;> rfl

abbrev TIh := Nat → Tr AV → List (Nat × Nat × AB) → List (Nat × Oper × AV × Tr AV) → List (Nat × St) → St → T2
/-- A slot that is written, told ahead. -/
structure Nw where
  put : Tr AV → AV → (Tr AV → T2) → T2
noncomputable def nxW (d : Option Nat) : Nw := Option.rec ⟨fun fr _ k => k fr⟩ (fun d => Bool.rec ⟨fun fr v k => nxC (some d) v fr k⟩ (Wp.rec (fun p => ⟨fun fr v k => forceV v fun v => putP v p fr k⟩) (pathW d)) (Nat.blt d 1048575)) d
theorem nxW_eq (d : Option Nat) (fr : Tr AV) (v : AV) (k : Tr AV → T2) : (nxW d).put fr v k = nxC d v fr k := by
  cases d with
  | none => rfl
  | some d =>
    show Nw.put (Bool.rec ⟨fun fr v k => nxC (some d) v fr k⟩ (Wp.rec (fun p => ⟨fun fr v k => forceV v fun v => putP v p fr k⟩) (pathW d)) (Nat.blt d 1048575) : Nw) fr v k = _
    cases hb : Nat.blt d 1048575 with
    | false => rfl
    | true =>
      rw [Nat.blt_eq] at hb
      show (forceV v fun v => putP v (pathW d).p fr k) = _
      unfold nxC
      simp only [forceV_eq, headC_eq]
      rw [pathW_put hb]
noncomputable def tPure (put : Tr AV → AV → (Tr AV → T2) → T2) (ih : TIh) (i : Nat) (fr : Tr AV) (mks : List (Nat × Nat × AB)) (rds : List (Nat × Oper × AV × Tr AV)) (E : List (Nat × St)) (M : St) (r : Option AV) : T2 := Option.rec (.no [52, i]) (fun v => put fr v fun fr => ih (Nat.succ i) fr mks rds E M) r
noncomputable def tRead (put : Tr AV → AV → (Tr AV → T2) → T2) (ih : TIh) (o : Oper) (i : Nat) (fr : Tr AV) (mks : List (Nat × Nat × AB)) (rds : List (Nat × Oper × AV × Tr AV)) (E : List (Nat × St)) (M : St) (r : Option AV) : T2 := Option.rec (.no [53, i]) (fun v => put fr v fun fr1 => ih (Nat.succ i) fr1 mks (rds ++ [(i, o, v, fr)]) E M) r
noncomputable def tAlloc (put : Tr AV → AV → (Tr AV → T2) → T2) (nxt : Nat) (ih : TIh) (i : Nat) (fr : Tr AV) (mks : List (Nat × Nat × AB)) (rds : List (Nat × Oper × AV × Tr AV)) (E : List (Nat × St)) (M : St) (r : Option (AV × AB)) : T2 := Option.rec (.no [54, i]) (fun p => Prod.rec (fun v B => put fr v fun fr => ih (Nat.succ i) fr (mks ++ [(i, Nat.add nxt i, B)]) rds E M) p) r
noncomputable def tEff (put : Tr AV → AV → (Tr AV → T2) → T2) (ops : List Oper) (n : Nat) (ih : TIh) (i : Nat) (fr : Tr AV) (mks : List (Nat × Nat × AB)) (rds : List (Nat × Oper × AV × Tr AV)) (E : List (Nat × St)) (M : St) (g : St → Option (AV × St)) : T2 := match allE (fun e => isAnc ops n i e) E with
  | false => .no [55, i]
  | true => Option.rec (.no [56, i]) (fun p => Prod.rec (fun v M1 => forceS M1 fun M1 => put fr v fun fr => ih (Nat.succ i) fr mks rds (E ++ [(i, M1)]) M1) p) (g (absorbM (fun k => isAnc ops n i k && not (anyE (fun e => isAnc ops n e k) E)) mks M))
noncomputable def tCall (put : Tr AV → AV → (Tr AV → T2) → T2) (ext : FuncId → List AV → Option AV) (call : FuncId → List AV → St → CRes) (ops : List Oper) (n : Nat) (ih : TIh) (i : Nat) (fr : Tr AV) (mks : List (Nat × Nat × AB)) (rds : List (Nat × Oper × AV × Tr AV)) (E : List (Nat × St)) (M : St) (r : Option (FuncId × List AV)) : T2 :=
  Option.rec (.no [59, i]) (fun p => Prod.rec (fun h vs => Option.rec (match allE (fun e => isAnc ops n i e) E with
    | false => .no [57, i]
    | true => CRes.rec (fun v M1 => put fr v fun fr => ih (Nat.succ i) fr mks rds (E ++ [(i, M1)]) M1) (fun w => .no (58 :: i :: w)) (call h vs (absorbM (fun k => isAnc ops n i k && not (anyE (fun e => isAnc ops n e k) E)) mks M)))
    (fun v => put fr v fun fr => ih (Nat.succ i) fr mks rds E M) (ext h vs)) p) r
structure TsC where
  s : Nat → (FuncId → List AV → Option AV) → (FuncId → List AV → St → CRes) → List Oper → Nat → Nat → Nat → TIh → TIh
noncomputable def tsY (put : Tr AV → AV → (Tr AV → T2) → T2) (o : Oper) (c : OpC) : TsC :=
  OpC.rec (fun g => ⟨fun _ _ _ _ _ m _ ih i fr mks rds E M => tPure put ih i fr mks rds E M (g ⟨fr, m⟩)⟩) (fun g => ⟨fun _ _ _ _ _ m _ ih i fr mks rds E M => tRead put ih o i fr mks rds E M (g ⟨fr, m⟩ M)⟩)
    (fun g => ⟨fun _ _ _ _ _ m nxt ih i fr mks rds E M => tAlloc put nxt ih i fr mks rds E M (g (Nat.add nxt i) ⟨fr, m⟩)⟩)
    (fun g => ⟨fun K _ _ ops n m _ ih i fr mks rds E M => tEff put ops n ih i fr mks rds E M (fun N => g K ⟨fr, m⟩ N)⟩)
    (fun g => ⟨fun _ ext call ops n m _ ih i fr mks rds E M => tCall put ext call ops n ih i fr mks rds E M (g ⟨fr, m⟩)⟩) (fun c => ⟨fun _ _ _ _ _ _ _ _ i _ _ _ _ _ => .no [c, i]⟩) c
noncomputable def tsW (put : Tr AV → AV → (Tr AV → T2) → T2) (w : Ww) (o : Oper) (c : OpC) : TsC :=
  Ww.rec (tsY put o c) (fun g b => TsC.rec (fun s => ⟨fun K ext call ops n m nxt ih i fr mks rds E M => Option.rec (.no [51, i]) (fun a => Bool.rec (put fr (.tup []) fun fr => ih (Nat.succ i) fr mks rds E M) (s K ext call ops n m nxt ih i fr mks rds E M) a) (askF b (g ⟨fr, m⟩))⟩) (tsY put o c))
    ⟨fun _ _ _ _ _ _ _ _ i _ _ _ _ _ => .no [51, i]⟩ w
noncomputable def tstepC (P : Program) (ops : List Oper) (o : Oper) : TsC := Nw.rec (fun put => tsW put (wantW ops o) o (opC P o)) (nxW o.dst)
noncomputable def tr2 (K : Nat) (P : Program) (ext : FuncId → List AV → Option AV) (call : FuncId → List AV → St → CRes) (ops : List Oper) (n m : Nat) (nxt : Nat) (l : List Oper) : TIh :=
  List.rec (motive := fun _ => TIh) (fun _ fr mks rds E M => .ok fr mks rds E M)
    (fun o _ ih => TsC.rec (fun s => s K ext call ops n m nxt ih) (tstepC P ops o)) l

theorem tr2_cons (o : Oper) (l : List Oper) (i : Nat) (fr : Tr AV) (mks : List (Nat × Nat × AB)) (rds : List (Nat × Oper × AV × Tr AV)) (E : List (Nat × St)) (M : St) :
    tr2 K P ext call ops.toList ops.size f0.n S.next (o :: l) i fr mks rds E M = (match want ops.toList ⟨fr, f0.n⟩ o with
      | none => .no [51, i]
      | some false => nxC o.dst (.tup []) fr fun fr => tr2 K P ext call ops.toList ops.size f0.n S.next l (Nat.succ i) fr mks rds E M
      | some true => match cls P o.op with
        | .pure => match pureOp P ⟨fr, f0.n⟩ o with
          | some v => nxC o.dst v fr fun fr => tr2 K P ext call ops.toList ops.size f0.n S.next l (Nat.succ i) fr mks rds E M
          | none => .no [52, i]
        | .read => match readOp P ⟨fr, f0.n⟩ M o with
          | some v => nxC o.dst v fr fun fr1 => tr2 K P ext call ops.toList ops.size f0.n S.next l (Nat.succ i) fr1 mks (rds ++ [(i, o, v, fr)]) E M
          | none => .no [53, i]
        | .alloc => match allocOp P (Nat.add S.next i) ⟨fr, f0.n⟩ o with
          | some (v, B) => nxC o.dst v fr fun fr => tr2 K P ext call ops.toList ops.size f0.n S.next l (Nat.succ i) fr (mks ++ [(i, Nat.add S.next i, B)]) rds E M
          | none => .no [54, i]
        | .eff => match allE (fun e => isAnc ops.toList ops.size i e) E with
          | false => .no [55, i]
          | true => match effOp K P ⟨fr, f0.n⟩ (absorbM (fun k => isAnc ops.toList ops.size i k && not (anyE (fun e => isAnc ops.toList ops.size e k) E)) mks M) o with
            | some (v, M1) => forceS M1 fun M1 => nxC o.dst v fr fun fr => tr2 K P ext call ops.toList ops.size f0.n S.next l (Nat.succ i) fr mks rds (E ++ [(i, M1)]) M1
            | none => .no [56, i]
        | .call => match o.op with
          | .call c => match callee ⟨fr, f0.n⟩ c with
            | some (h, vs) => match ext h vs with
              | some v => nxC o.dst v fr fun fr => tr2 K P ext call ops.toList ops.size f0.n S.next l (Nat.succ i) fr mks rds E M
              | none => match allE (fun e => isAnc ops.toList ops.size i e) E with
                | false => .no [57, i]
                | true => match call h vs (absorbM (fun k => isAnc ops.toList ops.size i k && not (anyE (fun e => isAnc ops.toList ops.size e k) E)) mks M) with
                  | .ok v M1 => nxC o.dst v fr fun fr => tr2 K P ext call ops.toList ops.size f0.n S.next l (Nat.succ i) fr mks rds (E ++ [(i, M1)]) M1
                  | .no w => .no (58 :: i :: w)
            | none => .no [59, i]
          | _ => .no [14, i]
        | .no => .no [15, i]) := by
  have hY : (tsY (nxW o.dst).put o (opC P o)).s K ext call ops.toList ops.size f0.n S.next (tr2 K P ext call ops.toList ops.size f0.n S.next l) i fr mks rds E M = match cls P o.op with
        | .pure => match pureOp P ⟨fr, f0.n⟩ o with
          | some v => nxC o.dst v fr fun fr => tr2 K P ext call ops.toList ops.size f0.n S.next l (Nat.succ i) fr mks rds E M
          | none => .no [52, i]
        | .read => match readOp P ⟨fr, f0.n⟩ M o with
          | some v => nxC o.dst v fr fun fr1 => tr2 K P ext call ops.toList ops.size f0.n S.next l (Nat.succ i) fr1 mks (rds ++ [(i, o, v, fr)]) E M
          | none => .no [53, i]
        | .alloc => match allocOp P (Nat.add S.next i) ⟨fr, f0.n⟩ o with
          | some (v, B) => nxC o.dst v fr fun fr => tr2 K P ext call ops.toList ops.size f0.n S.next l (Nat.succ i) fr (mks ++ [(i, Nat.add S.next i, B)]) rds E M
          | none => .no [54, i]
        | .eff => match allE (fun e => isAnc ops.toList ops.size i e) E with
          | false => .no [55, i]
          | true => match effOp K P ⟨fr, f0.n⟩ (absorbM (fun k => isAnc ops.toList ops.size i k && not (anyE (fun e => isAnc ops.toList ops.size e k) E)) mks M) o with
            | some (v, M1) => forceS M1 fun M1 => nxC o.dst v fr fun fr => tr2 K P ext call ops.toList ops.size f0.n S.next l (Nat.succ i) fr mks rds (E ++ [(i, M1)]) M1
            | none => .no [56, i]
        | .call => match o.op with
          | .call c => match callee ⟨fr, f0.n⟩ c with
            | some (h, vs) => match ext h vs with
              | some v => nxC o.dst v fr fun fr => tr2 K P ext call ops.toList ops.size f0.n S.next l (Nat.succ i) fr mks rds E M
              | none => match allE (fun e => isAnc ops.toList ops.size i e) E with
                | false => .no [57, i]
                | true => match call h vs (absorbM (fun k => isAnc ops.toList ops.size i k && not (anyE (fun e => isAnc ops.toList ops.size e k) E)) mks M) with
                  | .ok v M1 => nxC o.dst v fr fun fr => tr2 K P ext call ops.toList ops.size f0.n S.next l (Nat.succ i) fr mks rds (E ++ [(i, M1)]) M1
                  | .no w => .no (58 :: i :: w)
            | none => .no [59, i]
          | _ => .no [14, i]
        | .no => .no [15, i] := by
    unfold opC
    cases hc : cls P o.op with
    | pure =>
      simp only; rw [pureC_eq]
      show tPure (nxW o.dst).put _ i fr mks rds E M (pureOp P ⟨fr, f0.n⟩ o) = _
      unfold tPure
      cases pureOp P ⟨fr, f0.n⟩ o with
      | none => rfl
      | some v => exact nxW_eq _ _ _ _
    | read =>
      simp only; rw [readC_eq]
      show tRead (nxW o.dst).put _ o i fr mks rds E M (readOp P ⟨fr, f0.n⟩ M o) = _
      unfold tRead
      cases readOp P ⟨fr, f0.n⟩ M o with
      | none => rfl
      | some v => exact nxW_eq _ _ _ _
    | alloc =>
      simp only; rw [allocC_eq]
      show tAlloc (nxW o.dst).put S.next _ i fr mks rds E M (allocOp P (Nat.add S.next i) ⟨fr, f0.n⟩ o) = _
      unfold tAlloc
      cases allocOp P (Nat.add S.next i) ⟨fr, f0.n⟩ o with
      | none => rfl
      | some p => obtain ⟨v, B⟩ := p; exact nxW_eq _ _ _ _
    | eff =>
      simp only; rw [effC_eq]
      show tEff (nxW o.dst).put ops.toList ops.size _ i fr mks rds E M (fun N => effOp K P ⟨fr, f0.n⟩ N o) = _
      unfold tEff
      cases allE (fun e => isAnc ops.toList ops.size i e) E with
      | false => rfl
      | true =>
        simp only
        cases effOp K P ⟨fr, f0.n⟩ (absorbM (fun k => isAnc ops.toList ops.size i k && not (anyE (fun e => isAnc ops.toList ops.size e k) E)) mks M) o with
        | none => rfl
        | some p =>
          obtain ⟨v, M1⟩ := p
          show (forceS M1 fun M1 => (nxW o.dst).put fr v _) = forceS M1 _
          rw [forceS_eq, forceS_eq]
          exact nxW_eq _ _ _ _
    | call =>
      simp only
      unfold callC
      split
      · rename_i c ho
        simp only [ho]
        show tCall (nxW o.dst).put ext call ops.toList ops.size _ i fr mks rds E M ((calleeW c).k ⟨fr, f0.n⟩) = _
        rw [calleeW_eq]
        unfold tCall
        cases callee ⟨fr, f0.n⟩ c with
        | none => rfl
        | some p =>
          obtain ⟨g, vs⟩ := p
          simp only
          cases ext g vs with
          | some v => exact nxW_eq _ _ _ _
          | none =>
            simp only
            cases allE (fun e => isAnc ops.toList ops.size i e) E with
            | false => rfl
            | true =>
              simp only
              cases call g vs (absorbM (fun k => isAnc ops.toList ops.size i k && not (anyE (fun e => isAnc ops.toList ops.size e k) E)) mks M) with
              | ok v S' => exact nxW_eq _ _ _ _
              | no w => rfl
      · rename_i hne
        split
        · rename_i c ho; exact absurd ho (hne c)
        · rfl
    | no => rfl
  show (tsW (nxW o.dst).put (wantW ops.toList o) o (opC P o)).s K ext call ops.toList ops.size f0.n S.next (tr2 K P ext call ops.toList ops.size f0.n S.next l) i fr mks rds E M = _
  rw [← wantW_eq]
  cases hw : wantW ops.toList o with
  | yes => exact hY
  | no => rfl
  | ask g b =>
    show (Option.rec (.no [51, i]) (fun a => Bool.rec ((nxW o.dst).put fr (.tup []) fun fr => tr2 K P ext call ops.toList ops.size f0.n S.next l (Nat.succ i) fr mks rds E M) ((tsY (nxW o.dst).put o (opC P o)).s K ext call ops.toList ops.size f0.n S.next (tr2 K P ext call ops.toList ops.size f0.n S.next l) i fr mks rds E M) a) (askF b (g ⟨fr, f0.n⟩)) : T2) = _
    rw [hY, nxW_eq]
    show _ = match askF b (g ⟨fr, f0.n⟩) with
      | none => _
      | some false => _
      | some true => _
    cases askF b (g ⟨fr, f0.n⟩) with
    | none => rfl
    | some a => cases a <;> rfl

/-- What holds between the two passes. -/
structure Tw (P : Program) (ops : Array Oper) (f0 : Fm) (S : St) (i : Nat) (recs : List Rec) (fr : Tr AV) (mks : List (Nat × Nat × AB)) (rds : List (Nat × Oper × AV × Tr AV)) (E : List (Nat × St)) (M : St) : Prop where
  len : recs.length = i
  frm : Fr2 ops.toList f0 recs fr
  mks : mks = mksOf recs 0
  non : E = [] → M = ⟨S.heap, S.next + ops.size⟩
  rds : ∀ (j : Nat) (o : Oper) (v : AV), ops[j]? = some o → recs[j]? = some (.read v) → ∃ t t', (j, o, v, t') ∈ rds ∧ (∀ s ∈ o.looksAt ops, t.at s = t'.at s) ∧ seeG ops.toList f0 recs (preds o) (fun k => isAnc ops.toList ops.size k j) (o.looksAt ops) = some t ∧ (E = [] → readOp P ⟨t, f0.n⟩ ⟨S.heap, S.next + ops.size⟩ o = some v)

noncomputable def lksOk (ops : Array Oper) (l : List Oper) : Nat → Bool :=
  List.rec (motive := fun _ => Nat → Bool) (fun _ => true) (fun o _ ih i => lkOk ops.toList (preds o) (fun k => isAnc ops.toList ops.size k i) (o.looksAt ops) && ih (Nat.succ i)) l
theorem lksOk_ok : ∀ {l : List Oper} {k : Nat}, lksOk ops l k = true → ∀ (i : Nat) (o : Oper), l[i]? = some o → lkOk ops.toList (preds o) (fun j => isAnc ops.toList ops.size j (k + i)) (o.looksAt ops) = true
  | [], _, _, i, o, h => by simp at h
  | x :: l, k, h, i, o, hi => by
    have h : (lkOk ops.toList (preds x) (fun j => isAnc ops.toList ops.size j k) (x.looksAt ops) && lksOk ops l (k + 1)) = true := h
    rw [Bool.and_eq_true] at h
    cases i with
    | zero => simp at hi; subst hi; exact h.1
    | succ i =>
      have := lksOk_ok h.2 i o (by simpa using hi)
      have e : k + 1 + i = k + (i + 1) := by omega
      rw [e] at this; exact this

theorem putAll_none {t : Nat} {v : AV} {fr : Tr AV} {d : Nat} (hd : d < 1048575) : (fr.to d v).at t = if t = d then some v else fr.at t := Tr.at_to _ _ _ _ hd

theorem Tw.next {i : Nat} {o : Oper} {recs : List Rec} {fr : Tr AV} {mks : List (Nat × Nat × AB)} {rds : List (Nat × Oper × AV × Tr AV)} {E : List (Nat × St)} {M : St} (h : Tw P ops f0 S i recs fr mks rds E M) (hd : dstsOk f0.n ops.toList = true) (hn : f0.n < 1048575) (ho : ops[i]? = some o)
    (hbk : backOk ops.toList 0 = true) (hsee : seeG ops.toList f0 recs (preds o) (fun k => isAnc ops.toList ops.size k i) (o.looksAt ops) = some (seeF fr (o.looksAt ops))) {r : Rec} {rds' : List (Nat × Oper × AV × Tr AV)} {E' : List (Nat × St)} {M' : St}
    (hag : ∀ s ∈ o.looksAt ops, (seeF fr (o.looksAt ops)).at s = fr.at s) (hr : rds' = match r with | .read v => rds ++ [(i, o, v, fr)] | _ => rds) (hE : E' = [] → E = [] ∧ M' = M) (hread : ∀ v, r = .read v → readOp P ⟨seeF fr (o.looksAt ops), f0.n⟩ M o = some v) :
    Tw P ops f0 S (i + 1) (recs ++ [r]) (nx2 o.dst r.out fr) (mksOf (recs ++ [r]) 0) rds' E' M' := by
  obtain ⟨d1, d2⟩ := dstsOk_ok hd
  have hsub : ∀ x ∈ rds, x ∈ rds' := by
    intro x hx
    rw [hr]
    cases r with
    | read v => exact List.mem_append_left _ hx
    | _ => exact hx
  have hpl : ∀ (j : Nat) (q : Oper), ops[j]? = some q → j ≤ recs.length → ∀ k, (preds q).any (Nat.beq k) = true → k < recs.length := by
    intro j q hq hj k hk
    rw [List.any_eq_true] at hk
    obtain ⟨p, hp, e⟩ := hk
    have := Nat.eq_of_beq_eq_true e; subst this
    have := backOk_ok hbk j q _ (by simpa using hq) hp; omega
  refine ⟨by simp [h.len], ⟨fun t ht => ?_, fun t j q hw hq => ?_, fun t j hw hl => ?_⟩, rfl, fun he => ?_, fun j oj v hj hv => ?_⟩
  · unfold nx2
    cases hod : o.dst with
    | none => exact h.frm.old t ht
    | some d =>
      have hdn := d1 i o d (by simpa using ho) hod
      show (fr.to d r.out).at t = _
      rw [Tr.at_to _ _ _ _ (by omega), if_neg]
      · exact h.frm.old t ht
      · intro e; subst e; exact writer_none ht i o (by simpa using ho) hod
  · obtain ⟨oj, hoj, hdj⟩ := writer_some hw
    unfold nx2
    have hji : recs[j]? = some q → (match o.dst with | none => fr | some d => fr.to d r.out : Tr AV).at t = some q.out := by
      intro hq
      have hjl : j < recs.length := by
        by_cases hl : j < recs.length
        · exact hl
        · rw [List.getElem?_eq_none (by omega)] at hq; cases hq
      cases hod : o.dst with
      | none => exact h.frm.out t j q hw hq
      | some d =>
        have hdn := d1 i o d (by simpa using ho) hod
        show (fr.to d r.out).at t = _
        rw [Tr.at_to _ _ _ _ (by omega), if_neg]
        · exact h.frm.out t j q hw hq
        · intro e; subst e
          have := d2 i j o oj _ (by simpa using ho) hoj hod hdj
          have := h.len
          omega
    rcases get_snoc hq with ⟨_, hq⟩ | ⟨e, hq⟩
    · exact hji hq
    · subst hq
      have hjl := h.len
      have e : j = i := by omega
      subst e
      have : oj = o := by
        have ho' : ops.toList[j]? = some o := by simpa using ho
        rw [ho'] at hoj; injection hoj with hoj; exact hoj.symm
      subst this
      rw [hdj]
      have hdn := d1 j oj t (by simpa using ho) hdj
      show (fr.to t q.out).at t = _
      rw [Tr.at_to _ _ _ _ (by omega), if_pos rfl]
  · obtain ⟨oj, hoj, hdj⟩ := writer_some hw
    have hl : recs.length + 1 ≤ j := by simpa using hl
    unfold nx2
    cases hod : o.dst with
    | none => exact h.frm.yet t j hw (by omega)
    | some d =>
      have hdn := d1 i o d (by simpa using ho) hod
      show (fr.to d r.out).at t = _
      rw [Tr.at_to _ _ _ _ (by omega), if_neg]
      · exact h.frm.yet t j hw (by omega)
      · intro e; subst e
        have := d2 i j o oj _ (by simpa using ho) hoj hod hdj
        have := h.len
        omega
  · obtain ⟨h1, h2⟩ := hE he
    rw [h2]; exact h.non h1
  · rcases get_snoc hv with ⟨hl, hv⟩ | ⟨e, hv⟩
    · obtain ⟨t, t', g1, g0, g2, g3⟩ := h.rds j oj v hj hv
      exact ⟨t, t', hsub _ g1, g0, seeG_mono (hpl j oj hj (Nat.le_of_lt hl)) g2, fun he => g3 (hE he).1⟩
    · subst hv
      have e : j = i := by have := h.len; omega
      subst e
      have : oj = o := by rw [hj] at ho; injection ho
      subst this
      refine ⟨_, _, by rw [hr]; simp, hag, seeG_mono (hpl j oj hj (by have := h.len; omega)) hsee, fun he => ?_⟩
      obtain ⟨h1, h2⟩ := hE he
      rw [← h.non h1]
      exact hread v rfl

theorem tr2_tr (hd : dstsOk f0.n ops.toList = true) (hn : f0.n < 1048575) (hbk : backOk ops.toList 0 = true) (hlk : lksOk ops ops.toList 0 = true) :
    ∀ (l : List Oper) (i : Nat) (recs : List Rec) (fr : Tr AV) (mks : List (Nat × Nat × AB)) (rds : List (Nat × Oper × AV × Tr AV)) (E : List (Nat × St)) (M : St) {fr' : Tr AV} {mks' : List (Nat × Nat × AB)} {rds' : List (Nat × Oper × AV × Tr AV)} {E' : List (Nat × St)} {M' : St},
      (∀ j, l[j]? = ops.toList[i + j]?) → Tw P ops f0 S i recs fr mks rds E M →
      tr2 K P ext call ops.toList ops.size f0.n S.next l i fr mks rds E M = .ok fr' mks' rds' E' M' →
      ∃ recs', tr K P ext call ops.toList (fun o => o.looksAt ops) ops.size f0 S l i recs E M = .ok recs' E' M' ∧ Tw P ops f0 S (i + l.length) recs' fr' mks' rds' E' M'
  | [], i, recs, fr, mks, rds, E, M, fr', mks', rds', E', M', _, h, ht => by
    have ht : T2.ok fr mks rds E M = .ok fr' mks' rds' E' M' := ht
    injection ht with e1 e2 e3 e4 e5; subst e1; subst e2; subst e3; subst e4; subst e5
    exact ⟨recs, rfl, h⟩
  | o :: l, i, recs, fr, mks, rds, E, M, fr', mks', rds', E', M', hl, h, ht => by
    have ho : ops[i]? = some o := by have := hl 0; simpa using this.symm
    have hl' : ∀ j, l[j]? = ops.toList[i + 1 + j]? := fun j => by have := hl (j + 1); simp only [List.getElem?_cons_succ] at this; rw [this]; congr 1; omega
    have hlo := lksOk_ok hlk i o (by simpa using ho)
    rw [Nat.zero_add] at hlo
    have hback : ∀ (i : Nat) (o : Oper) (j : Nat), ops[i]? = some o → j ∈ preds o → j < i := fun i o j hi hj => by
      have := backOk_ok hbk i o j (by simpa using hi) hj; omega
    have hsee : seeG ops.toList f0 recs (preds o) (fun k => isAnc ops.toList ops.size k i) (o.looksAt ops) = some (seeF fr (o.looksAt ops)) := seeG_eq h.frm (fun j hj => by
      have := hback i o j ho hj; have := h.len; omega) (fun j hj => by have := anc_lt hback (isAnc_ok hj); have := h.len; omega) hlo
    have hag : ∀ s ∈ o.looksAt ops, (seeF fr (o.looksAt ops)).at s = fr.at s := fun s hs => seeF_at (fun s hs => lkOk_lt hlo s hs) s hs
    have hmk : ∀ r : Rec, mksOf (recs ++ [r]) 0 = mks ++ mksOf [r] i := fun r => by rw [mksOf_snoc, ← h.mks, Nat.zero_add, h.len]
    have hch : allE (fun e => isAnc ops.toList ops.size i e) E = chainOk ops.toList ops.size i E := allE_eq _ _
    have hfo : absorbM (fun k => isAnc ops.toList ops.size i k && not (anyE (fun e => isAnc ops.toList ops.size e k) E)) mks M = found ops.toList ops.size i recs E M := by
      rw [h.mks, absorbM_eq]
      unfold found
      congr 1
      funext k
      rw [anyE_eq]
    have go : ∀ (r : Rec) (E1 : List (Nat × St)) (M1 : St) (mks1 : List (Nat × Nat × AB)) (rds1 : List (Nat × Oper × AV × Tr AV)),
        tr K P ext call ops.toList (fun o => o.looksAt ops) ops.size f0 S (o :: l) i recs E M = tr K P ext call ops.toList (fun o => o.looksAt ops) ops.size f0 S l (i + 1) (recs ++ [r]) E1 M1 →
        mks1 = mks ++ mksOf [r] i → rds1 = (match r with | .read v => rds ++ [(i, o, v, fr)] | _ => rds) → (E1 = [] → E = [] ∧ M1 = M) → (∀ v, r = .read v → readOp P ⟨seeF fr (o.looksAt ops), f0.n⟩ M o = some v) →
        tr2 K P ext call ops.toList ops.size f0.n S.next l (i + 1) (nx2 o.dst r.out fr) mks1 rds1 E1 M1 = .ok fr' mks' rds' E' M' →
        ∃ recs', tr K P ext call ops.toList (fun o => o.looksAt ops) ops.size f0 S (o :: l) i recs E M = .ok recs' E' M' ∧ Tw P ops f0 S (i + (o :: l).length) recs' fr' mks' rds' E' M' := by
      intro r E1 M1 mks1 rds1 hk hm hr hE hread ht
      have hT := h.next hd hn ho hbk hsee hag hr hE hread
      rw [hmk r, ← hm] at hT
      obtain ⟨recs', q1, q2⟩ := tr2_tr hd hn hbk hlk l (i + 1) (recs ++ [r]) _ _ _ E1 M1 hl' hT ht
      refine ⟨recs', hk.trans q1, ?_⟩
      have e : i + (o :: l).length = i + 1 + l.length := by simp; omega
      rw [e]; exact q2
    rw [tr2_cons] at ht
    obtain ⟨ha, hwt⟩ := agr_looks (o := o) (n := f0.n) (t := fr) (t' := seeF fr (o.looksAt ops)) (ops := ops) fun s hs => (hag s hs).symm
    rw [hwt, pureOp_congr ha] at ht
    simp only [readOp_congr ha, allocOp_congr ha, effOp_congr ha] at ht
    split at ht
    · cases ht
    · rename_i hw
      rw [nxC_eq] at ht
      exact go .skip E M mks rds (by conv => lhs; unfold tr
                                     simp only [hsee, hw]; rfl) (by simp [mksOf]) rfl (fun e => ⟨e, rfl⟩) (fun v e => by cases e) ht
    · rename_i hw
      split at ht
      · rename_i hc
        split at ht
        · rename_i v hv
          rw [nxC_eq] at ht
          exact go (.val v) E M mks rds (by conv => lhs; unfold tr
                                            simp only [hsee, hw, hc, hv]; rfl) (by simp [mksOf]) rfl (fun e => ⟨e, rfl⟩) (fun v e => by cases e) ht
        · cases ht
      · rename_i hc
        split at ht
        · rename_i v hv
          rw [nxC_eq] at ht
          exact go (.read v) E M mks _ (by conv => lhs; unfold tr
                                           simp only [hsee, hw, hc, hv]; rfl) (by simp [mksOf]) rfl (fun e => ⟨e, rfl⟩) (fun u e => by injection e with e; subst e; exact hv) ht
        · cases ht
      · rename_i hc
        split at ht
        · rename_i v B hv
          rw [nxC_eq] at ht
          exact go (.mk (Nat.add S.next i) B v) E M _ rds (by conv => lhs; unfold tr
                                                              simp only [hsee, hw, hc, hv]; rfl) (by simp [mksOf]) rfl (fun e => ⟨e, rfl⟩) (fun v e => by cases e) ht
        · cases ht
      · rename_i hc
        split at ht
        · cases ht
        · rename_i hcc
          rw [hch] at hcc
          split at ht
          · rename_i v M1 hv
            rw [hfo] at hv
            (try rw [forceS_eq] at ht)
            rw [nxC_eq] at ht
            exact go (.eff v _ M1) _ M1 mks rds (by conv => lhs; unfold tr
                                                    simp only [hsee, hw, hc, hcc, hv]; rfl) (by simp [mksOf]) rfl (fun e => absurd e (by simp)) (fun v e => by cases e) ht
          · cases ht
      · rename_i hc
        split at ht
        · rename_i c hcop
          rw [hcop] at hc
          rw [callee_congr ha hcop] at ht
          split at ht
          · rename_i g vs hg
            split at ht
            · rename_i v hv
              rw [nxC_eq] at ht
              exact go (.val v) E M mks rds (by conv => lhs; unfold tr
                                                simp only [hsee, hw, hcop, hc, hg, hv]; rfl) (by simp [mksOf]) rfl (fun e => ⟨e, rfl⟩) (fun v e => by cases e) ht
            · rename_i hne
              split at ht
              · cases ht
              · rename_i hcc
                rw [hch] at hcc
                split at ht
                · rename_i v M1 hv
                  rw [hfo] at hv
                  (try rw [forceS_eq] at ht)
                  rw [nxC_eq] at ht
                  exact go (.eff v _ M1) _ M1 mks rds (by conv => lhs; unfold tr
                                                          simp only [hsee, hw, hcop, hc, hg, hne, hcc, hv]; rfl) (by simp [mksOf]) rfl (fun e => absurd e (by simp)) (fun v e => by cases e) ht
                · cases ht
          · cases ht
        · cases ht
      · cases ht

noncomputable def statOk (n : Nat) (ops : Array Oper) : Bool := dstsOk n ops.toList && (backOk ops.toList 0 && (Nat.blt n 1048575 && lksOk ops ops.toList 0))
noncomputable def rdF (P : Program) (ops : Array Oper) (m : Nat) (M0 : St) (_fr : Tr AV) (E : List (Nat × St)) (rds : List (Nat × Oper × AV × Tr AV)) : Bool := rds.all fun p =>
  (E.any (fun q => isAnc ops.toList ops.size p.1 q.1) || readEq P ⟨p.2.2.2, m⟩ p.2.1 p.2.2.1 M0) &&
    E.all fun q => isAnc ops.toList ops.size q.1 p.1 || ((E.any fun s => isAnc ops.toList ops.size p.1 s.1 && isAnc ops.toList ops.size s.1 q.1) || readEq P ⟨p.2.2.2, m⟩ p.2.1 p.2.2.1 q.2)
noncomputable def rdsF (P : Program) (ops : Array Oper) (m : Nat) (M0 : St) (_fr : Tr AV) (E : List (Nat × St)) (rds : List (Nat × Oper × AV × Tr AV)) : Bool := match E with
  | [] => true
  | _ => rdF P ops m M0 _fr E rds

/-- A region that draws its order. -/
noncomputable def doDrawn (K : Nat) (P : Program) (ext : FuncId → List AV → Option AV) (call : FuncId → List AV → St → CRes) (id : Nat) (ops : Array Oper) (f : Fm) (S : St) : Res :=
  fNat f.n fun m => match statOk m ops && Nat.blt (Nat.add S.next ops.size) 1048575 with
  | false => .no [70, id]
  | true => match tr2 K P ext call ops.toList ops.size m S.next ops.toList 0 f.t [] [] [] ⟨S.heap, Nat.add S.next ops.size⟩ with
    | .no w => .no (71 :: id :: w)
    | .ok fr mks rds E M => match rdsF P ops m ⟨S.heap, Nat.add S.next ops.size⟩ fr E rds with
      | false => .no [72, id]
      | true => forceS (absorbM (fun k => not (anyE (fun e => isAnc ops.toList ops.size e k) E)) mks M) fun M => .normal ⟨fr, m⟩ M

theorem readEq_ok {g : Fm} {o : Oper} {v : AV} {N : St} (h : readEq P g o v N = true) : readOp P g N o = some v := by
  unfold readEq at h
  split at h
  · rename_i u hu; rw [hu, avEq_ok h]
  · cases h

theorem doDrawn_ok {Z : Kept K} (hm : P.follows .mixedOrders = true) (hext : Ext2Ok Z P ext) (hcall : CallOk Z P call) : DrawnOk Z P (doDrawn K P ext call) := by
  intro id ops r n lo f S ρ a w Q hf hw hmk hK hz h
  unfold doDrawn at h
  rw [fNat_eq] at h
  split at h
  · exact h.elim
  · rename_i hc
    unfold statOk at hc
    simp only [Bool.and_eq_true, Nat.blt_eq] at hc
    obtain ⟨⟨c1, c2, c3, c5⟩, c4⟩ := hc
    split at h
    · exact h.elim
    · rename_i fr mks rds E M ht
      split at h
      · exact h.elim
      · rename_i hrd
        obtain ⟨recs, t1, t2⟩ := tr2_tr (P := P) (K := K) (ext := ext) (call := call) (ops := ops) (f0 := f) (S := S) c1 c3 c2 c5 ops.toList 0 [] f.t [] [] [] ⟨S.heap, S.next + ops.size⟩ (fun j => by simp)
          ⟨rfl, ⟨fun _ _ => rfl, fun t j r _ h => by simp at h, fun _ _ _ _ => rfl⟩, rfl, fun _ => rfl, fun j o v _ h => by simp at h⟩ ht
        have hlen : recs.length = ops.size := by have := t2.len; simpa using this
        have hG := good_of (P := P) (K := K) (ext := ext) (call := call) (ops := ops) (f0 := f) (S := S) (fr := fr) c1 c2 c3 c4 t1 (fun i o v t ho hr hs => by
            obtain ⟨t', t'', g1, g0, g2, g3⟩ := t2.rds i o v ho hr
            rw [hs] at g2; injection g2 with g2; subst g2
            have ha := (agr_looks (n := f.n) g0).1
            simp only [readOp_congr ha] at g3 ⊢
            cases E with
            | nil => exact ⟨.inr (g3 rfl), fun p hp => by simp at hp⟩
            | cons e0 E0 =>
              have hrd : rdF P ops f.n ⟨S.heap, S.next + ops.size⟩ fr (e0 :: E0) rds = true := hrd
              unfold rdF at hrd
              rw [List.all_eq_true] at hrd
              have hq := hrd _ g1
              simp only at hq
              simp only [Bool.and_eq_true, Bool.or_eq_true, List.any_eq_true, List.all_eq_true] at hq
              exact ⟨hq.1.imp (fun ⟨p, h1, h2⟩ => ⟨p, h1, h2⟩) readEq_ok, fun p hp => (hq.2 p hp).imp (fun h => h) (fun h => h.imp (fun ⟨s, h1, h2⟩ => ⟨s, h1, h2⟩) readEq_ok)⟩)
          (fun s v hs => by
            cases hw : writer s ops.toList with
            | none => exact .inr ⟨fun j oj hj => writer_none hw j oj (by simpa using hj), by rw [← t2.frm.old s hw]; exact hs⟩
            | some j =>
              obtain ⟨oj, h1, h2⟩ := writer_some hw
              have hj : j < recs.length := by
                rw [hlen]
                by_cases hj : j < ops.size
                · exact hj
                · rw [List.getElem?_eq_none (by simp; omega)] at h1; cases h1
              have hr : recs[j]? = some recs[j] := List.getElem?_eq_getElem hj
              have := t2.frm.out s j _ hw hr
              rw [hs] at this; injection this with this
              exact .inl ⟨j, oj, recs[j], by simpa using h1, h2, hr, this⟩)
        refine Tc.drawn_ok (T := ⟨ops, f, S, recs⟩) hm hext hcall hG hf hw hmk hK hz ?_
        have e : absorbM (fun k => not (anyE (fun e => isAnc ops.toList ops.size e k) E)) mks M = absorbP (fun k => not (E.any fun p => isAnc ops.toList ops.size p.1 k)) recs 0 M := by
          rw [t2.mks, absorbM_eq]
          congr 1
          funext k
          rw [anyE_eq]
        rw [forceS_eq, e] at h
        exact h

/-- THE EXECUTOR: what it says of a call holds of the call in every world that holds what S tells. -/
theorem run_sound2 {Z : Kept K} {ext2 : FuncId → List AV → Option AV} {xt : FuncId → List AV → St → CRes} (hm : P.follows .mixedOrders = true) (hext : ExtOk P ext) (hext2 : Ext2Ok Z P ext2) (hxt : CallOk Z P xt) (n : Nat) : CallOk Z P (run K P ext xt (fun call => doDrawn K P ext2 call) n) :=
  run_ok hext hxt (fun _ _ hs hc => doDrawn_ok hm (hext2.sub hs) hc) n
theorem run_sound {Z : Kept K} {xt : FuncId → List AV → St → CRes} (hm : P.follows .mixedOrders = true) (hext : ExtOk P ext) (hxt : CallOk Z P xt) (n : Nat) : CallOk Z P (run K P ext xt (fun call => doDrawn K P ext call) n) :=
  run_sound2 hm hext hext.two hxt n

end Ex
end Go.Proofs.YtdkijcmhjeaofaaGreatDoor
namespace Go.Proofs.YtdkijcmhjeaofaaGreatDoor
namespace Ex

variable {P : Program}

noncomputable def cntL (c : Nat) (l : List Nat) : Nat := List.rec 0 (fun x _ ih => Bool.rec ih (Nat.succ ih) (Nat.beq x c)) l
noncomputable def idxL (c : Nat) (l : List Nat) : Option Nat := List.rec none (fun x _ ih => Bool.rec (Option.rec none (fun n => some (Nat.succ n)) ih) (some 0) (Nat.beq x c)) l

theorem u8_eq {x c : Nat} (hx : x < 256) (hc : c < 256) : (UInt8.ofNat x == UInt8.ofNat c) = Nat.beq x c := by
  by_cases h : x = c
  · subst h; rw [beq_t rfl]; simp
  · rw [beq_f h]
    cases hb : (UInt8.ofNat x == UInt8.ofNat c) with
    | false => rfl
    | true =>
      have := congrArg UInt8.toNat (eq_of_beq hb)
      simp [Nat.mod_eq_of_lt hx, Nat.mod_eq_of_lt hc] at this
      exact absurd this h

theorem cntL_ok {c : Nat} (hc : c < 256) : ∀ (l : List Nat), (∀ b ∈ l, b < 256) → Lib.countByte (l.map UInt8.ofNat) (UInt8.ofNat c) = cntL c l
  | [], _ => rfl
  | x :: l, h => by
    have hx := h x (by simp)
    have ih := cntL_ok hc l fun b hb => h b (by simp [hb])
    have e : cntL c (x :: l) = (Bool.rec (cntL c l) (Nat.succ (cntL c l)) (Nat.beq x c) : Nat) := rfl
    unfold Lib.countByte at ih ⊢
    rw [e, List.map_cons, List.count_cons, u8_eq hx hc, ih]
    cases Nat.beq x c <;> rfl

theorem idxL_ok {c : Nat} (hc : c < 256) : ∀ (l : List Nat), (∀ b ∈ l, b < 256) → Lib.indexByte (l.map UInt8.ofNat) (UInt8.ofNat c) = match idxL c l with | some n => (n : Int) | none => -1
  | [], _ => rfl
  | x :: l, h => by
    have hx := h x (by simp)
    have ih := idxL_ok hc l fun b hb => h b (by simp [hb])
    have e : idxL c (x :: l) = (Bool.rec (Option.rec none (fun n => some (Nat.succ n)) (idxL c l)) (some 0) (Nat.beq x c) : Option Nat) := rfl
    rw [e, List.map_cons]
    show (if UInt8.ofNat x == UInt8.ofNat c then (0 : Int) else if Lib.indexByte (l.map UInt8.ofNat) (UInt8.ofNat c) == -1 then -1 else Lib.indexByte (l.map UInt8.ofNat) (UInt8.ofNat c) + 1) = _
    rw [u8_eq hx hc, ih]
    cases Nat.beq x c with
    | true => rfl
    | false =>
      cases idxL c l with
      | none => rfl
      | some n =>
        have h1 : (((n : Nat) : Int) == -1) = false := by simp
        simp [h1]

/-- The three functions, by their numbers. -/
noncomputable def ext3 (gN gC gI : FuncId) : FuncId → List AV → Option AV := fun g vs =>
  match Nat.beq g gN, vs with
  | true, [v] => some v
  | _, _ => match Nat.beq g gC, vs with
    | true, [.str l, .int .u8 (.ofNat c)] => Bool.rec none (some (fNat (cntL c l) fun n => .int .i64 (.ofNat n))) (Nat.blt c 256)
    | _, _ => match Nat.beq g gI, vs with
      | true, [.str l, .int .u8 (.ofNat c)] => Bool.rec none (some (match idxL c l with | some n => fNat n fun n => .int .i64 (.ofNat n) | none => .int .i64 (.negSucc 0))) (Nat.blt c 256)
      | _, _ => none

theorem ext3_ok {gN gC gI : FuncId} (lN : gN < 1048576) (lC : gC < 1048576) (lI : gI < 1048576) (hN : ∀ x w, (callFunc gN #[x]).run P w = .ok (.value x) w)
    (hC : ∀ args w, (callFunc gC args).run P w = ((Extern.BytealgCount.count args).run P w).andThen fun v w' => .ok (.value v) w')
    (hI : ∀ args w, (callFunc gI args).run P w = ((Extern.BytealgIndexByte.indexByte args).run P w).andThen fun v w' => .ok (.value v) w') : ExtOk P (ext3 gN gC gI) := by
  intro g vs v h
  unfold ext3 at h
  have byte : ∀ {l : List Nat} {c : Nat} {ρ : Rho} {xs : List Value}, vs = [.str l, .int .u8 (.ofNat c)] → VRL ρ vs xs → xs = [.string (bytesOf l), .int .u8 (c : Int)] ∧ ∀ b ∈ l, b < 256 := by
    intro l c ρ xs e hx
    subst e
    simp only [VRL, VR] at hx
    obtain ⟨y, ys, rfl, ⟨e1, hb⟩, z, zs, rfl, e2, rfl⟩ := hx
    subst e1; subst e2; exact ⟨rfl, hb⟩
  split at h
  · rename_i u hg
    have := Nat.eq_of_beq_eq_true hg; subst this
    injection h with h; subst h
    refine ⟨lN, fun ρ xs w hx => ?_⟩
    simp only [VRL] at hx
    obtain ⟨y, ys, rfl, hy, rfl⟩ := hx
    exact ⟨y, hN y w, hy⟩
  · split at h
    · rename_i l c hg _
      have := Nat.eq_of_beq_eq_true hg; subst this
      by_cases hc : c < 256
      · rw [blt_t hc] at h
        simp only [Option.some.injEq, fNat_eq] at h; subst h
        refine ⟨lC, fun ρ xs w hx => ?_⟩
        obtain ⟨e, hb⟩ := byte rfl hx
        subst e
        refine ⟨.int .i64 (cntL c l), ?_, by simp only [VR]; rfl⟩
        rw [hC, Lib.run_countString]
        have e1 : (bytesOf l).data.toList = l.map UInt8.ofNat := by simp [bytesOf]
        have e2 : (c : Int).toNat.toUInt8 = UInt8.ofNat c := by simp
        rw [e1, e2, cntL_ok hc l hb]; rfl
      · rw [blt_f hc] at h; cases h
    · split at h
      · rename_i l c hg _ _
        have := Nat.eq_of_beq_eq_true hg; subst this
        by_cases hc : c < 256
        · rw [blt_t hc] at h
          simp only [Option.some.injEq] at h
          refine ⟨lI, fun ρ xs w hx => ?_⟩
          obtain ⟨e, hb⟩ := byte rfl hx
          subst e
          have e1 : (bytesOf l).data.toList = l.map UInt8.ofNat := by simp [bytesOf]
          have e2 : (c : Int).toNat.toUInt8 = UInt8.ofNat c := by simp
          refine ⟨.int .i64 (match idxL c l with | some n => (n : Int) | none => -1), ?_, ?_⟩
          · rw [hI]
            have := Lib.run_indexByteString (P := P) (bytesOf l) c w
            rw [e1, e2, idxL_ok hc l hb] at this
            rw [this]; rfl
          · cases hi : idxL c l with
            | none => rw [hi] at h; subst h; simp only [VR]; rfl
            | some n => rw [hi] at h; simp only [fNat_eq] at h; subst h; simp only [VR]; rfl
        · rw [blt_f hc] at h; cases h
      · cases h

end Ex
end Go.Proofs.YtdkijcmhjeaofaaGreatDoor
namespace Go.Proofs.YtdkijcmhjeaofaaGreatDoor
namespace Ex

variable {P : Program} {K : Nat} {ext : FuncId → List AV → Option AV} {xt : FuncId → List AV → St → CRes}

/-- A block of cells, all of them known. -/
structure RB where
  id : Nat
  l : List AV
  e : TypeId
  free : Bool
noncomputable def RB.ab (p : RB) : AB := .cells (wr p.l .e 0) p.l.length p.e p.free
noncomputable def addAll (l : List RB) (h : Tr AB) : Tr AB := List.rec h (fun p _ ih => ih.to p.id p.ab) l
theorem addAll_at {h : Tr AB} {i : Nat} {B : AB} : ∀ {l : List RB}, (∀ p ∈ l, p.id < 1048575) → (addAll l h).at i = some B → (∃ p ∈ l, p.id = i ∧ B = p.ab) ∨ (h.at i = some B ∧ ∀ p ∈ l, p.id ≠ i)
  | [], _, hb => .inr ⟨hb, by simp⟩
  | p :: l, hl, hb => by
    have hb : ((addAll l h).to p.id p.ab).at i = some B := hb
    rw [Tr.at_to _ _ _ _ (hl p (by simp))] at hb
    by_cases e : i = p.id
    · rw [if_pos e] at hb; injection hb with hb
      exact .inl ⟨p, by simp, e.symm, hb.symm⟩
    · rw [if_neg e] at hb
      rcases addAll_at (fun q hq => hl q (List.mem_cons_of_mem _ hq)) hb with ⟨q, h1, h2⟩ | ⟨h1, h2⟩
      · exact .inl ⟨q, List.mem_cons_of_mem _ h1, h2⟩
      · refine .inr ⟨h1, fun q hq => ?_⟩
        rcases List.mem_cons.1 hq with rfl | hq
        · exact fun h => e h.symm
        · exact h2 q hq

/-- Equality of values, where it can be seen; of tuples of aggregates too. -/
noncomputable def eqTL (l : List AV) : List AV → Bool :=
  List.rec (motive := fun _ => List AV → Bool) (fun r => match r with
    | [] => true
    | _ => false) (fun x _ ih r => match r with
    | [] => false
    | y :: r => avEq x y && ih r) l
theorem eqTL_ok : ∀ {l r : List AV}, eqTL l r = true → l = r
  | [], [], _ => rfl
  | [], _ :: _, h => by cases h
  | _ :: _, [], h => by cases h
  | x :: l, y :: r, h => by
    have h : (avEq x y && eqTL l r) = true := h
    rw [Bool.and_eq_true] at h
    rw [avEq_ok h.1, eqTL_ok h.2]
noncomputable def eqT (u v : AV) : Bool := match u, v with
  | .tup l, .tup r => eqTL l r
  | u, v => avEq u v
theorem eqT_ok {u v : AV} (h : eqT u v = true) : u = v := by
  unfold eqT at h
  split at h
  · rw [eqTL_ok h]
  · exact avEq_ok h

/-- A trie holds a list from a place on. -/
noncomputable def holdsL (t : Tr AV) (l : List AV) : Nat → Bool :=
  List.rec (motive := fun _ => Nat → Bool) (fun _ => true) (fun x _ ih j => (match t.at j with
    | some y => avEq y x
    | none => false) && ih (Nat.succ j)) l
theorem holdsL_ok {t : Tr AV} : ∀ {l : List AV} {k : Nat}, holdsL t l k = true → ∀ j v, l[j]? = some v → t.at (k + j) = some v
  | [], _, _, j, v, h => by simp at h
  | x :: l, k, h, j, v, hj => by
    have h : ((match t.at k with
      | some y => avEq y x
      | none => false) && holdsL t l (k + 1)) = true := h
    rw [Bool.and_eq_true] at h
    cases j with
    | zero =>
      simp at hj; subst hj
      have h1 := h.1
      split at h1
      · rename_i y hy; rw [Nat.add_zero, hy, avEq_ok h1]
      · cases h1
    | succ j =>
      have := holdsL_ok h.2 j v (by simpa using hj)
      have e : k + 1 + j = k + (j + 1) := by omega
      rw [e] at this; exact this
noncomputable def holdsB (S : St) (p : RB) : Bool := Nat.blt p.l.length 1000000 && match S.heap.at p.id with
  | some (.cells t n e free) => Nat.beq n p.l.length && (Nat.beq e p.e && ((free == p.free) && holdsL t p.l 0))
  | _ => false
theorem holdsB_ok {S : St} {p : RB} (h : holdsB S p = true) : p.l.length < 1000000 ∧ ∃ t, S.heap.at p.id = some (.cells t p.l.length p.e p.free) ∧ ∀ j v, p.l[j]? = some v → t.at j = some v := by
  unfold holdsB at h
  rw [Bool.and_eq_true] at h
  have h0 : p.l.length < 1000000 := by have := h.1; rwa [Nat.blt_eq] at this
  have h := h.2
  split at h
  · rename_i t n e free hh
    simp only [Bool.and_eq_true] at h
    have e1 := Nat.eq_of_beq_eq_true h.1
    have e2 := Nat.eq_of_beq_eq_true h.2.1
    have e3 : free = p.free := by simpa using h.2.2.1
    subst e1; subst e2; subst e3
    exact ⟨h0, t, hh, fun j v hj => by have := holdsL_ok h.2.2.2 j v hj; rwa [Nat.zero_add] at this⟩
  · cases h
theorem RB.at_ok {p : RB} (hl : p.l.length < 1000000) {j : Nat} {v : AV} (h : (wr p.l .e 0).at j = some v) : j < p.l.length ∧ p.l[j]? = some v := by
  rw [wr_at _ _ _ _ (by omega)] at h
  by_cases hin : 0 ≤ j ∧ j < 0 + p.l.length
  · rw [if_pos hin] at h; exact ⟨by omega, by simpa using h⟩
  · rw [if_neg hin, Tr.at_e] at h; cases h

/-- A call that was run on a small memory: what it finds, what it gives, and the blocks that it makes. -/
structure Memo where
  g : FuncId
  nx : Nat
  vs : List AV
  pre : List RB
  v : AV
  post : List RB
  nx' : Nat
noncomputable def Memo.S0 (m : Memo) : St := ⟨addAll m.pre .e, m.nx⟩
noncomputable def Memo.S1 (m : Memo) (S : St) : St := ⟨addAll m.post S.heap, m.nx'⟩
noncomputable def memo (m : Memo) (xt : FuncId → List AV → St → CRes) : FuncId → List AV → St → CRes := fun g vs S =>
  match Nat.beq g m.g && (Nat.beq S.next m.nx && (eqTL vs m.vs && m.pre.all (holdsB S))) with
  | true => .ok m.v (m.S1 S)
  | false => xt g vs S
/-- The kernel's word on it. -/
noncomputable def Memo.good (m : Memo) (P : Program) (ext : FuncId → List AV → Option AV) (xt : FuncId → List AV → St → CRes) (n : Nat) : Bool :=
  (Nat.ble m.nx m.nx' && Nat.blt m.nx' 1048575) && (m.pre.all (fun p => Nat.blt p.id m.nx) && (m.post.all (fun p => Nat.ble m.nx p.id && Nat.blt p.id m.nx') &&
    match run m.nx P ext xt (fun call => doDrawn m.nx P ext call) n m.g m.vs m.S0 with
    | .ok v S => eqT v m.v && (Nat.ble S.next m.nx' && m.post.all (holdsB S))
    | .no _ => false))

theorem memo_ok {W : World} (hm : P.follows .mixedOrders = true) (hext : ExtOk P ext) (hxt : ∀ K, CallOk (Kept.zz W K) P xt) {n : Nat} {m : Memo} (h : m.good P ext xt n = true) : ∀ K, CallOk (Kept.zz W K) P (memo m xt) := by
  intro K g vs S v S' hc ρ xs w hxs hw hK hz
  unfold memo at hc
  split at hc
  · rename_i hcond
    injection hc with e1 e2; subst e1; subst e2
    simp only [Bool.and_eq_true, List.all_eq_true] at hcond
    obtain ⟨c1, c2, c3, c4⟩ := hcond
    have c1 := Nat.eq_of_beq_eq_true c1
    have c2 := Nat.eq_of_beq_eq_true c2
    have c3 := eqTL_ok c3
    subst c1; subst c3
    unfold Memo.good at h
    simp only [Bool.and_eq_true, List.all_eq_true, Nat.blt_eq] at h
    obtain ⟨⟨d1, d2⟩, d3, d4, d5⟩ := h
    have d1 : m.nx ≤ m.nx' := Nat.le_of_ble_eq_true d1
    have hpl : ∀ p ∈ m.pre, p.id < 1048575 := fun p hp => by have := d3 p hp; omega
    have hql : ∀ p ∈ m.post, p.id < 1048575 := fun p hp => by have := (d4 p hp).2; omega
    split at d5
    · rename_i v1 S1 hrun
      simp only [Bool.and_eq_true, List.all_eq_true] at d5
      obtain ⟨f1, f2, f3⟩ := d5
      have f1 := eqT_ok f1
      subst f1
      have f2 : S1.next ≤ m.nx' := Nat.le_of_ble_eq_true f2
      -- the small memory
      have hS0 : ∀ i B, m.S0.heap.at i = some B → i < m.nx ∧ ∃ p ∈ m.pre, p.id = i ∧ B = p.ab := by
        intro i B hB
        rcases addAll_at hpl hB with ⟨p, hp, e, e'⟩ | ⟨hB, _⟩
        · exact ⟨by rw [← e]; exact d3 p hp, p, hp, e, e'⟩
        · rw [Tr.at_e] at hB; cases hB
      have hfind : ∀ i B, m.S0.heap.at i = some B → ∃ B', S.heap.at i = some B' ∧ B'.live = true := by
        intro i B hB
        obtain ⟨_, p, hp, e, _⟩ := hS0 i B hB
        obtain ⟨_, t, ht, _⟩ := holdsB_ok (c4 p hp)
        rw [e] at ht
        exact ⟨_, ht, rfl⟩
      have hw0 : WR ρ m.S0 w := by
        refine ⟨fun i j b m1 n1 A B hi hj _ _ hρi hρj => ?_, fun i hi => ⟨(hw.dom i (by have hi : m.nx ≤ i := hi; omega)).1, ?_⟩, by show m.nx < _; omega, hw.low, fun i B hB => ?_⟩
        · obtain ⟨A', hA, hAl⟩ := hfind i A hi
          obtain ⟨B', hB, hBl⟩ := hfind j B hj
          exact hw.inj i j b m1 n1 A' B' hA hB hAl hBl hρi hρj
        · cases hB : m.S0.heap.at i with
          | none => rfl
          | some B => have := (hS0 i B hB).1; have hi : m.nx ≤ i := hi; omega
        · obtain ⟨_, p, hp, e, e'⟩ := hS0 i B hB
          obtain ⟨g0, t, ht, htl⟩ := holdsB_ok (c4 p hp)
          rw [e] at ht
          obtain ⟨b, n1, hb, c, f, q1, q2, q3, q4, q5⟩ := hw.blk i _ ht
          refine ⟨b, n1, hb, ?_⟩
          rw [e']
          refine ⟨c, f, q1, q2, q3, fun j v hj => ?_, q5⟩
          obtain ⟨r1, r2⟩ := RB.at_ok g0 hj
          exact q4 j v (htl j v r2)
      have hz0 : Zz W m.nx m.S0 ρ w := ⟨fun i b n1 A hi hA _ _ => by have := (hS0 i A hA).1; omega, hz.below⟩
      refine Ent.mono (run_sound (Z := Kept.zz W m.nx) hm hext (hxt m.nx) n m.g m.vs m.S0 m.v S1 hrun ρ xs w hxs hw0 (Nat.le_refl _) hz0) ?_
      rintro e w' ⟨x, σ, rfl, hx, hw', hu, hf⟩
      have hb : RowKit.Below w.heap.size w w' := ⟨hf.os, hf.tape, hf.output, hf.size, fun b hb => hf.block b hb fun i n1 A hi hA _ => by have := (hS0 i A hA).1; omega⟩
      have hold : ∀ i, i < S.next → σ i = ρ i := fun i hi => hu.old i (by show i < m.nx; omega)
      have hnewid : ∀ p ∈ m.post, S.next ≤ p.id ∧ p.id < m.nx' := fun p hp => ⟨by rw [c2]; exact Nat.le_of_ble_eq_true (d4 p hp).1, (d4 p hp).2⟩
      have hat : ∀ i A, (m.S1 S).heap.at i = some A → (∃ p ∈ m.post, p.id = i ∧ A = p.ab) ∨ (i < S.next ∧ S.heap.at i = some A) := by
        intro i A hA
        rcases addAll_at hql hA with h | ⟨h1, _⟩
        · exact .inl h
        · refine .inr ⟨?_, h1⟩
          apply Classical.byContradiction
          intro hn
          rw [(hw.dom i (by omega)).2] at h1; cases h1
      have hnb : ∀ p ∈ m.post, ∃ t, S1.heap.at p.id = some (.cells t p.l.length p.e p.free) := fun p hp => let ⟨_, t, ht, _⟩ := holdsB_ok (f3 p hp); ⟨t, ht⟩
      have hfresh : ∀ p ∈ m.post, ∀ b n1, σ p.id = some (b, n1) → w.heap.size ≤ b := by
        intro p hp b n1 hσ
        obtain ⟨t, ht⟩ := hnb p hp
        rcases hu.new p.id b n1 _ ht rfl hσ with ⟨_, A', h2, _⟩ | ⟨_, h1 | ⟨j, m1, A', hj, h2, _⟩⟩
        · have := (hS0 _ _ h2).1
          have := (hnewid p hp).1
          omega
        · exact h1
        · have := (hS0 _ _ h2).1; omega
      have holdlt : ∀ i b n1, i < S.next → σ i = some (b, n1) → b < w.heap.size := fun i b n1 hi hσ => by rw [hold i hi] at hσ; exact hw.low i b n1 hσ
      refine ⟨x, σ, rfl, hx, ⟨fun i j b m1 n1 A B hi hj hA hB hσi hσj => ?_, fun i hi => ?_, d2, hw'.low, fun i B hB => ?_⟩, ?_, ?_⟩
      · rcases hat i A hi with ⟨p, hp, e, _⟩ | ⟨hil, hiS⟩ <;> rcases hat j B hj with ⟨q, hq, e', _⟩ | ⟨hjl, hjS⟩
        · subst e; subst e'
          obtain ⟨t, ht⟩ := hnb p hp
          obtain ⟨t', ht'⟩ := hnb q hq
          exact hw'.inj _ _ b m1 n1 _ _ ht ht' rfl rfl hσi hσj
        · subst e
          have := hfresh p hp b m1 hσi
          have := holdlt j b n1 hjl hσj
          omega
        · subst e'
          have := hfresh q hq b n1 hσj
          have := holdlt i b m1 hil hσi
          omega
        · rw [hold i hil] at hσi; rw [hold j hjl] at hσj
          exact hw.inj i j b m1 n1 A B hiS hjS hA hB hσi hσj
      · have hi : m.nx' ≤ i := hi
        refine ⟨(hw'.dom i (by omega)).1, ?_⟩
        cases hB : (m.S1 S).heap.at i with
        | none => rfl
        | some A =>
          rcases hat i A hB with ⟨p, hp, e, _⟩ | ⟨hil, _⟩
          · have := (hnewid p hp).2; omega
          · omega
      · rcases hat i B hB with ⟨p, hp, e, e'⟩ | ⟨hil, hiS⟩
        · obtain ⟨g0, t, ht, htl⟩ := holdsB_ok (f3 p hp)
          rw [e] at ht
          obtain ⟨b, n1, hb1, c, f, q1, q2, q3, q4, q5⟩ := hw'.blk i _ ht
          refine ⟨b, n1, hb1, ?_⟩
          rw [e']
          refine ⟨c, f, q1, q2, q3, fun j v hj => ?_, q5⟩
          obtain ⟨r1, r2⟩ := RB.at_ok g0 hj
          exact q4 j v (htl j v r2)
        · obtain ⟨b, n1, hb1, hB1⟩ := hw.blk i B hiS
          refine ⟨b, n1, by rw [hold i hil]; exact hb1, ?_⟩
          rw [hb.block b (hw.low i b n1 hb1)]
          exact BR.mono hu.le hB1
      · refine ⟨hu.le, by show S.next ≤ m.nx'; omega, hold, fun i hi h0 => ?_, fun i b n1 A hA hl hσ => ?_⟩
        · cases hB : (m.S1 S).heap.at i with
          | none => rfl
          | some A =>
            rcases hat i A hB with ⟨p, hp, e, _⟩ | ⟨_, hiS⟩
            · have := (hnewid p hp).1; omega
            · rw [h0] at hiS; cases hiS
        · rcases hat i A hA with ⟨p, hp, e, _⟩ | ⟨hil, hiS⟩
          · subst e
            exact .inr ⟨Nat.le_trans hK (hnewid p hp).1, .inl (hfresh p hp b n1 hσ)⟩
          · exact .inl ⟨by rw [← hold i hil]; exact hσ, A, hiS, hl⟩
      · exact ⟨hf.os, hf.tape, hf.output, hf.size, fun b hb' _ => hb.block b hb'⟩
    · cases d5
  · exact hxt K g vs S v S' hc ρ xs w hxs hw hK hz

end Ex
end Go.Proofs.YtdkijcmhjeaofaaGreatDoor
namespace Go.Proofs.YtdkijcmhjeaofaaGreatDoor
open Ex Go.RowKit

/-- No extern is known. -/
def extZ : FuncId → List AV → Option AV := fun _ _ => none
theorem extZ_ok : ExtOk Tryz.prog extZ := fun _ _ _ h => by cases h
theorem mixedP : Tryz.prog.follows .mixedOrders = true := by kernel_rfl
/-- A run on nothing. -/
noncomputable def run0 (n : Nat) (f : FuncId) (vs : List AV) : CRes := run 0 Tryz.prog extZ xtZ (fun call => doDrawn 0 Tryz.prog extZ call) n f vs ⟨.e, 0⟩
theorem run0_ok {n : Nat} {f : FuncId} {vs : List AV} {v : AV} {S' : St} (h : run0 n f vs = .ok v S') {xs : List Value} (hx : ∀ ρ, VRL ρ vs xs) (w : World) :
    Calls Tryz.prog f xs.toArray w fun e w' => (∃ ρ x, e = .returned x ∧ VR ρ v x) ∧ Below w.heap.size w w' := by
  have hw : WR (fun _ => none) ⟨.e, 0⟩ w := ⟨fun i j b m n A B h => (by rw [Tr.at_e] at h; cases h), fun i _ => ⟨rfl, Tr.at_e i⟩, by decide, fun i b n h => (by cases h), fun i B h => (by rw [Tr.at_e] at h; cases h)⟩
  have hc := run_sound (Z := Kept.zz w 0) mixedP extZ_ok xtZ_ok n f vs ⟨.e, 0⟩ v S' h (fun _ => none) xs w (hx _) hw (Nat.le_refl _) ⟨fun i b m A _ h => (by rw [Tr.at_e] at h; cases h), Below.refl _ _⟩
  rcases hc with ⟨_, _, hc⟩ | ⟨y, b, m, _, hc, _⟩
  · refine hc.mono ?_
    rintro e w' ⟨x, σ, rfl, hx, _, _, hf⟩
    exact ⟨⟨σ, x, rfl, hx⟩, hf.os, hf.tape, hf.output, hf.size, fun k hk => hf.block k hk fun i n A _ hA => (by rw [Tr.at_e] at hA; cases hA)⟩
  · cases hc
end Go.Proofs.YtdkijcmhjeaofaaGreatDoor
namespace Go.Proofs.YtdkijcmhjeaofaaGreatDoor
open Go.RowKit

def lnV (k c : Int) : Value := .agg #[.int .u8 k, .int .i64 c]
def ptV (x y : Int) : Value := .agg #[.int .i64 x, .int .i64 y]

set_option maxHeartbeats 1000000 in
theorem lineCheck_any (k c : Int) (w : World) :
    Calls Tryz.prog 148 #[.agg #[.int .u8 k, .int .i64 c]] w (RetBelow (.int .i64 (ec (okL k c) 1)) w) := by
  go_enter Tryz.func148, Tryz.ntmps148
  go_wp2_with fail
  all_goals go_ret
  all_goals refine ⟨ret_int ?_, (Below.refl _ _).alloc (Nat.le_refl _) _⟩
  all_goals first | rw [okL_no (by omega), ec_f] | rw [okL_iff.2 (by omega), ec_t]

set_option maxHeartbeats 1000000 in
theorem checkPoint_any (x y : Int) (w : World) :
    Calls Tryz.prog 235 #[.agg #[.int .i64 x, .int .i64 y]] w (RetBelow (.int .i64 (ec (okP x y) 1)) w) := by
  go_enter Tryz.func235, Tryz.ntmps235
  go_wp2_with fail
  all_goals go_ret
  all_goals refine ⟨ret_int ?_, (Below.refl _ _).alloc (Nat.le_refl _) _⟩
  all_goals first | rw [okP_no (by omega), ec_f] | rw [okP_iff.2 (by omega), ec_t]

set_option maxHeartbeats 1000000 in
theorem along_any (k x y : Int) (w : World) (h : okP x y = true) :
    Calls Tryz.prog 275 #[.int .u8 k, .agg #[.int .i64 x, .int .i64 y]] w (RetBelow (.int .i64 (alongF k x y)) w) := by
  obtain ⟨h1, h2, h3, h4⟩ := okP_iff.1 h
  obtain ⟨R, hR⟩ : ∃ R, alongF k x y = R := ⟨_, rfl⟩
  rw [hR]
  have HR := Lib.hid hR
  clear hR h
  go_enter Tryz.func275, Tryz.ntmps275
  go_wp2_with fail
  all_goals go_ret
  all_goals refine ⟨ret_int ?_, (Below.refl _ _).alloc (Nat.le_refl _) _⟩
  all_goals rw [← HR.out]; unfold alongF
  all_goals simp_all

def fnV (f : FuncId) : Value := .func (.func f) #[] #[]
def rulesV (p q : Value) : Value := .agg #[.nilFunc, .nilFunc, .nilFunc, fnV 274, fnV 276, fnV 277, fnV 278, fnV 279, fnV 280,
  fnV 281, fnV 282, .func (.func 283) #[] #[p], fnV 284, fnV 285, .func (.func 286) #[] #[q]]

def rulesAV (v : Ex.AV) : Bool := match v with
  | .agg [.nilFunc, .nilFunc, .nilFunc, .func f1 [], .func f2 [], .func f3 [], .func f4 [], .func f5 [], .func f6 [], .func f7 [], .func f8 [], .func f9 [.ptr _ _], .func f10 [], .func f11 [], .func f12 [.ptr _ _]] =>
    f1 == 274 && f2 == 276 && f3 == 277 && f4 == 278 && f5 == 279 && f6 == 280 &&
    f7 == 281 && f8 == 282 && f9 == 283 && f10 == 284 && f11 == 285 && f12 == 286
  | _ => false
noncomputable def rulesIs : Bool := match run0 10 236 [] with
  | .ok v _ => rulesAV v
  | _ => false
theorem rulesIs_true : rulesIs = true := by kernel_rfl
theorem rules_any (w : World) : Calls Tryz.prog 236 #[] w fun e w' => ∃ p q, e = .returned (rulesV p q) ∧ Below w.heap.size w w' := by
  have h := rulesIs_true
  unfold rulesIs at h
  split at h
  · rename_i v S' hr
    refine (run0_ok hr (xs := []) (fun _ => by simp [Ex.VRL]) w).mono ?_
    rintro e w' ⟨⟨ρ, x, rfl, hx⟩, hb⟩
    unfold rulesAV at h
    split at h
    · rename_i f1 f2 f3 f4 f5 f6 f7 f8 f9 _ _ f10 f11 f12 _ _
      simp only [Bool.and_eq_true, beq_iff_eq] at h
      obtain ⟨⟨⟨⟨⟨⟨⟨⟨⟨⟨⟨rfl, rfl⟩, rfl⟩, rfl⟩, rfl⟩, rfl⟩, rfl⟩, rfl⟩, rfl⟩, rfl⟩, rfl⟩, rfl⟩ := h
      have key : ∀ (f : FuncId) (x : Value), Ex.VR ρ (.func f []) x ↔ x = fnV f := by
        intro f x
        simp only [Ex.VR, Ex.VRL, fnV]
        constructor
        · rintro ⟨xs, rfl, rfl⟩; rfl
        · rintro rfl; exact ⟨[], rfl, rfl⟩
      have keyp : ∀ (f : FuncId) (i o : Nat) (x : Value), Ex.VR ρ (.func f [.ptr i o]) x → ∃ p, x = .func (.func f) #[] #[p] := by
        intro f i o x hx
        simp only [Ex.VR, Ex.VRL] at hx
        obtain ⟨xs, rfl, y, ys, rfl, _, rfl⟩ := hx
        exact ⟨y, rfl⟩
      have keyn : ∀ x : Value, Ex.VR ρ .nilFunc x ↔ x = .nilFunc := fun x => by simp only [Ex.VR]
      rw [Ex.VR] at hx
      obtain ⟨xs, rfl, hl⟩ := hx
      simp only [Ex.VRL, key, keyn] at hl
      obtain ⟨y1, z1, rfl, rfl, y2, z2, rfl, rfl, y3, z3, rfl, rfl, y4, z4, rfl, rfl, y5, z5, rfl, rfl, y6, z6, rfl, rfl, y7, z7, rfl, rfl, y8, z8, rfl, rfl, y9, z9, rfl, rfl, y10, z10, rfl, rfl, y11, z11, rfl, rfl, y12, z12, rfl, h12, y13, z13, rfl, rfl, y14, z14, rfl, rfl, y15, z15, rfl, h15, rfl⟩ := hl
      obtain ⟨p, rfl⟩ := keyp _ _ _ _ h12
      obtain ⟨q, rfl⟩ := keyp _ _ _ _ h15
      exact ⟨p, q, rfl, hb⟩
    · cases h
  · cases h

set_option maxHeartbeats 1000000 in
theorem ruleAlong1 (x y : Int) (w : World) (h : okP x y = true) : Calls Tryz.prog 274 #[.agg #[.int .i64 x, .int .i64 y]] w (RetBelow (.int .i64 (alongF 1 x y)) w) := by
  have H := Lib.hid h
  clear h
  go_enter Tryz.func274, Tryz.ntmps274
  go_wp2_with fail
  refine (along_any 1 x y _ H.out).mono ?_
  rintro e w2 ⟨rfl, hb⟩
  have hb' : Below w.heap.size w w2 := ((Below.refl _ _).alloc (Nat.le_refl _) _).trans (hb.mono (by simp))
  go_wp2_with fail
  go_ret
  exact ⟨rfl, hb'⟩

set_option maxHeartbeats 1000000 in
theorem ruleAlong2 (x y : Int) (w : World) (h : okP x y = true) : Calls Tryz.prog 278 #[.agg #[.int .i64 x, .int .i64 y]] w (RetBelow (.int .i64 (alongF 2 x y)) w) := by
  have H := Lib.hid h
  clear h
  go_enter Tryz.func278, Tryz.ntmps278
  go_wp2_with fail
  refine (along_any 2 x y _ H.out).mono ?_
  rintro e w2 ⟨rfl, hb⟩
  have hb' : Below w.heap.size w w2 := ((Below.refl _ _).alloc (Nat.le_refl _) _).trans (hb.mono (by simp))
  go_wp2_with fail
  go_ret
  exact ⟨rfl, hb'⟩

set_option maxHeartbeats 1000000 in
theorem ruleAlong3 (x y : Int) (w : World) (h : okP x y = true) : Calls Tryz.prog 281 #[.agg #[.int .i64 x, .int .i64 y]] w (RetBelow (.int .i64 (alongF 3 x y)) w) := by
  have H := Lib.hid h
  clear h
  go_enter Tryz.func281, Tryz.ntmps281
  go_wp2_with fail
  refine (along_any 3 x y _ H.out).mono ?_
  rintro e w2 ⟨rfl, hb⟩
  have hb' : Below w.heap.size w w2 := ((Below.refl _ _).alloc (Nat.le_refl _) _).trans (hb.mono (by simp))
  go_wp2_with fail
  go_ret
  exact ⟨rfl, hb'⟩

set_option maxHeartbeats 1000000 in
theorem ruleAlong4 (x y : Int) (w : World) (h : okP x y = true) : Calls Tryz.prog 284 #[.agg #[.int .i64 x, .int .i64 y]] w (RetBelow (.int .i64 (alongF 4 x y)) w) := by
  have H := Lib.hid h
  clear h
  go_enter Tryz.func284, Tryz.ntmps284
  go_wp2_with fail
  refine (along_any 4 x y _ H.out).mono ?_
  rintro e w2 ⟨rfl, hb⟩
  have hb' : Below w.heap.size w w2 := ((Below.refl _ _).alloc (Nat.le_refl _) _).trans (hb.mono (by simp))
  go_wp2_with fail
  go_ret
  exact ⟨rfl, hb'⟩

/-- The closure 'along' in the row of the table of a kind. -/
def ruleFn (k : Int) : FuncId := if k = 1 then 274 else if k = 2 then 278 else if k = 3 then 281 else 284
theorem ruleAlong_any (k x y : Int) (w : World) (hk : 1 ≤ k ∧ k ≤ 4) (h : okP x y = true) : Calls Tryz.prog (ruleFn k) #[.agg #[.int .i64 x, .int .i64 y]] w (RetBelow (.int .i64 (alongF k x y)) w) := by
  have : k = 1 ∨ k = 2 ∨ k = 3 ∨ k = 4 := by omega
  rcases this with rfl | rfl | rfl | rfl
  · exact ruleAlong1 x y w h
  · exact ruleAlong2 x y w h
  · exact ruleAlong3 x y w h
  · exact ruleAlong4 x y w h

theorem rulesIx1 (p q : Value) (w : World) : (Instr.index 372 (.agg #[.nilFunc, .nilFunc, .nilFunc, .func (.func 274) #[] #[], .func (.func 276) #[] #[], .func (.func 277) #[] #[], .func (.func 278) #[] #[], .func (.func 279) #[] #[], .func (.func 280) #[] #[], .func (.func 281) #[] #[], .func (.func 282) #[] #[], .func (.func 283) #[] #[p], .func (.func 284) #[] #[], .func (.func 285) #[] #[], .func (.func 286) #[] #[q]]) (.int .u8 1)).run Tryz.prog w = .ok (.agg #[.func (.func 274) #[] #[], .func (.func 276) #[] #[], .func (.func 277) #[] #[]]) w := by kernel_rfl
theorem rulesIx2 (p q : Value) (w : World) : (Instr.index 372 (.agg #[.nilFunc, .nilFunc, .nilFunc, .func (.func 274) #[] #[], .func (.func 276) #[] #[], .func (.func 277) #[] #[], .func (.func 278) #[] #[], .func (.func 279) #[] #[], .func (.func 280) #[] #[], .func (.func 281) #[] #[], .func (.func 282) #[] #[], .func (.func 283) #[] #[p], .func (.func 284) #[] #[], .func (.func 285) #[] #[], .func (.func 286) #[] #[q]]) (.int .u8 2)).run Tryz.prog w = .ok (.agg #[.func (.func 278) #[] #[], .func (.func 279) #[] #[], .func (.func 280) #[] #[]]) w := by kernel_rfl
theorem rulesIx3 (p q : Value) (w : World) : (Instr.index 372 (.agg #[.nilFunc, .nilFunc, .nilFunc, .func (.func 274) #[] #[], .func (.func 276) #[] #[], .func (.func 277) #[] #[], .func (.func 278) #[] #[], .func (.func 279) #[] #[], .func (.func 280) #[] #[], .func (.func 281) #[] #[], .func (.func 282) #[] #[], .func (.func 283) #[] #[p], .func (.func 284) #[] #[], .func (.func 285) #[] #[], .func (.func 286) #[] #[q]]) (.int .u8 3)).run Tryz.prog w = .ok (.agg #[.func (.func 281) #[] #[], .func (.func 282) #[] #[], .func (.func 283) #[] #[p]]) w := by kernel_rfl
theorem rulesIx4 (p q : Value) (w : World) : (Instr.index 372 (.agg #[.nilFunc, .nilFunc, .nilFunc, .func (.func 274) #[] #[], .func (.func 276) #[] #[], .func (.func 277) #[] #[], .func (.func 278) #[] #[], .func (.func 279) #[] #[], .func (.func 280) #[] #[], .func (.func 281) #[] #[], .func (.func 282) #[] #[], .func (.func 283) #[] #[p], .func (.func 284) #[] #[], .func (.func 285) #[] #[], .func (.func 286) #[] #[q]]) (.int .u8 4)).run Tryz.prog w = .ok (.agg #[.func (.func 284) #[] #[], .func (.func 285) #[] #[], .func (.func 286) #[] #[q]]) w := by kernel_rfl
theorem rulesFd (a b c : Value) (w : World) : (Instr.field 371 (.agg #[a, b, c]) 0).run Tryz.prog w = .ok a w := by kernel_rfl
/-- The side of a point. -/
def sideL (k c x y : Int) : Int := if okL k c && okP x y then sideP k c x y else 0

set_option maxRecDepth 100000 in
set_option maxHeartbeats 4000000 in
theorem side_any (k c x y : Int) (w : World) (hk0 : 0 ≤ k) : Calls Tryz.prog 197 #[.agg #[.int .u8 k, .int .i64 c], .agg #[.int .i64 x, .int .i64 y]] w (RetBelow (.int .i64 (sideL k c x y)) w) := by
  obtain ⟨R, hR⟩ : ∃ R, sideL k c x y = R := ⟨_, rfl⟩
  rw [hR]
  have HR := Lib.hid hR
  have H := ((Bx.start w).new #[.int .u8 k, .int .i64 c] 48 rfl).new #[.int .i64 x, .int .i64 y] 311 (N := w.heap.size + 1) (by simp)
  clear hR
  go_enter Tryz.func197, Tryz.ntmps197
  go_upto_region 1 with fail
  obtain ⟨W, hW⟩ : ∃ W, W = (w.alloc (.cells #[.int .u8 k, .int .i64 c] 48)).alloc (.cells #[.int .i64 x, .int .i64 y] 311) := ⟨_, rfl⟩
  rw [← hW] at H ⊢
  obtain ⟨N, hN⟩ : ∃ N, N = w.heap.size := ⟨_, rfl⟩
  rw [← hN] at H ⊢
  clear hW hN
  obtain ⟨⟨a0, a1⟩, _⟩ := blk2 (H.blk 0 _ _ _ rfl)
  cases hL : okL k c
  · have HL := Lib.hid hL
    have hfin : R = 0 := by rw [← HR.out]; unfold sideL; rw [HL.out]; rfl
    clear hL
    go_wp2_with fail
    refine (lineCheck_any k c _).mono ?_
    rintro e w2 ⟨rfl, hb⟩
    rw [HL.out, ec_f]
    have H2 := H.call hb
    clear a0 a1 hb
    go_wp2_with fail
    go_ret
    exact ⟨ret_int hfin.symm, H2.below⟩
  · cases hP : okP x y
    · have HL := Lib.hid hL
      have HP := Lib.hid hP
      have hfin : R = 0 := by rw [← HR.out]; unfold sideL; rw [HP.out, Bool.and_false]; rfl
      clear hL hP
      go_wp2_with fail
      refine (lineCheck_any k c _).mono ?_
      rintro e w2 ⟨rfl, hb⟩
      rw [HL.out, ec_t]
      have H2 := H.call hb
      obtain ⟨⟨p0, p1⟩, _⟩ := blk2 (H2.blk 1 _ _ _ rfl)
      clear a0 a1 hb H
      go_wp2_with fail
      refine (checkPoint_any x y _).mono ?_
      rintro e w3 ⟨rfl, hb⟩
      rw [HP.out, ec_f]
      have H3 := H2.call hb
      clear p0 p1 hb
      go_wp2_with fail
      go_ret
      exact ⟨ret_int hfin.symm, H3.below⟩
    · have HL := Lib.hid hL
      have HP := Lib.hid hP
      have hfin : R = sideP k c x y := by rw [← HR.out]; unfold sideL; rw [HL.out, HP.out]; rfl
      have HF := Lib.hid hfin
      obtain ⟨l1, l2, l3, l4⟩ := okL_iff.1 hL
      clear hL hP hfin
      go_wp2_with fail
      refine (lineCheck_any k c _).mono ?_
      rintro e w2 ⟨rfl, hb⟩
      rw [HL.out, ec_t]
      have H2 := H.call hb
      obtain ⟨⟨p0, p1⟩, _⟩ := blk2 (H2.blk 1 _ _ _ rfl)
      clear a0 a1 hb H
      go_wp2_with fail
      refine (checkPoint_any x y _).mono ?_
      rintro e w3 ⟨rfl, hb⟩
      rw [HP.out, ec_t]
      have H3 := H2.call hb
      obtain ⟨⟨a0, a1⟩, _⟩ := blk2 (H3.blk 0 _ _ _ rfl)
      obtain ⟨⟨p0', p1'⟩, _⟩ := blk2 (H3.blk 1 _ _ _ rfl)
      clear p0 p1 hb H2
      have h4 : k = 1 ∨ k = 2 ∨ k = 3 ∨ k = 4 := by omega
      rcases h4 with rfl | rfl | rfl | rfl
      · obtain ⟨A, hA⟩ : ∃ A, alongF 1 x y = A := ⟨_, rfl⟩
        have hR' : R = if A < 2 * c then -1 else if 2 * c < A then 1 else 0 := by rw [HF.out]; unfold sideP; rw [hA]
        have HR' := Lib.hid hR'
        have HA := Lib.hid hA
        have hix := rulesIx1
        have hfd := rulesFd
        clear hA hR'
        go_upto_region 3 with fail
        go_region_held3 (fun w' => w'.cell? ⟨N, 0, none⟩ = some (.int .u8 1) ∧ w'.cell? ⟨N + 1, 0, none⟩ = some (.int .i64 x) ∧ w'.cell? ⟨N + 1, 1, none⟩ = some (.int .i64 y))
          (first | exact ⟨a0, p0', p1'⟩ | go_keep)
          (first
            | (go_at_call 236; (with_reducible refine (rules_any _).mono ?_); rintro e w4 ⟨p, q, rfl, hb4⟩; unfold rulesV fnV; have H3 := H3.call (undrew hb4); have a0 := below_cell (undrew hb4) a0; have a1 := below_cell (undrew hb4) a1; have p0' := below_cell (undrew hb4) p0'; have p1' := below_cell (undrew hb4) p1')
            | (go_at_call 274; (with_reducible refine (ruleAlong1 x y _ HP.out).mono ?_); rintro e w5 ⟨rfl, hb5⟩; rw [HA.out]; have H3 := H3.call hb5; have a0 := below_cell hb5 a0; have a1 := below_cell hb5 a1; have p0' := below_cell hb5 p0'; have p1' := below_cell hb5 p1')
            | fail)
        go_wp2_with fail
        all_goals go_ret
        all_goals refine ⟨ret_int ?_, H3.below⟩
        all_goals rw [HR'.out]
        · rw [if_pos (by omega)]
        · rw [if_neg (by omega), if_pos (by omega)]
        · rw [if_neg (by omega), if_neg (by omega)]
      · obtain ⟨A, hA⟩ : ∃ A, alongF 2 x y = A := ⟨_, rfl⟩
        have hR' : R = if A < 2 * c then -1 else if 2 * c < A then 1 else 0 := by rw [HF.out]; unfold sideP; rw [hA]
        have HR' := Lib.hid hR'
        have HA := Lib.hid hA
        have hix := rulesIx2
        have hfd := rulesFd
        clear hA hR'
        go_upto_region 3 with fail
        go_region_held3 (fun w' => w'.cell? ⟨N, 0, none⟩ = some (.int .u8 2) ∧ w'.cell? ⟨N + 1, 0, none⟩ = some (.int .i64 x) ∧ w'.cell? ⟨N + 1, 1, none⟩ = some (.int .i64 y))
          (first | exact ⟨a0, p0', p1'⟩ | go_keep)
          (first
            | (go_at_call 236; (with_reducible refine (rules_any _).mono ?_); rintro e w4 ⟨p, q, rfl, hb4⟩; unfold rulesV fnV; have H3 := H3.call (undrew hb4); have a0 := below_cell (undrew hb4) a0; have a1 := below_cell (undrew hb4) a1; have p0' := below_cell (undrew hb4) p0'; have p1' := below_cell (undrew hb4) p1')
            | (go_at_call 278; (with_reducible refine (ruleAlong2 x y _ HP.out).mono ?_); rintro e w5 ⟨rfl, hb5⟩; rw [HA.out]; have H3 := H3.call hb5; have a0 := below_cell hb5 a0; have a1 := below_cell hb5 a1; have p0' := below_cell hb5 p0'; have p1' := below_cell hb5 p1')
            | fail)
        go_wp2_with fail
        all_goals go_ret
        all_goals refine ⟨ret_int ?_, H3.below⟩
        all_goals rw [HR'.out]
        · rw [if_pos (by omega)]
        · rw [if_neg (by omega), if_pos (by omega)]
        · rw [if_neg (by omega), if_neg (by omega)]
      · obtain ⟨A, hA⟩ : ∃ A, alongF 3 x y = A := ⟨_, rfl⟩
        have hR' : R = if A < 2 * c then -1 else if 2 * c < A then 1 else 0 := by rw [HF.out]; unfold sideP; rw [hA]
        have HR' := Lib.hid hR'
        have HA := Lib.hid hA
        have hix := rulesIx3
        have hfd := rulesFd
        clear hA hR'
        go_upto_region 3 with fail
        go_region_held3 (fun w' => w'.cell? ⟨N, 0, none⟩ = some (.int .u8 3) ∧ w'.cell? ⟨N + 1, 0, none⟩ = some (.int .i64 x) ∧ w'.cell? ⟨N + 1, 1, none⟩ = some (.int .i64 y))
          (first | exact ⟨a0, p0', p1'⟩ | go_keep)
          (first
            | (go_at_call 236; (with_reducible refine (rules_any _).mono ?_); rintro e w4 ⟨p, q, rfl, hb4⟩; unfold rulesV fnV; have H3 := H3.call (undrew hb4); have a0 := below_cell (undrew hb4) a0; have a1 := below_cell (undrew hb4) a1; have p0' := below_cell (undrew hb4) p0'; have p1' := below_cell (undrew hb4) p1')
            | (go_at_call 281; (with_reducible refine (ruleAlong3 x y _ HP.out).mono ?_); rintro e w5 ⟨rfl, hb5⟩; rw [HA.out]; have H3 := H3.call hb5; have a0 := below_cell hb5 a0; have a1 := below_cell hb5 a1; have p0' := below_cell hb5 p0'; have p1' := below_cell hb5 p1')
            | fail)
        go_wp2_with fail
        all_goals go_ret
        all_goals refine ⟨ret_int ?_, H3.below⟩
        all_goals rw [HR'.out]
        · rw [if_pos (by omega)]
        · rw [if_neg (by omega), if_pos (by omega)]
        · rw [if_neg (by omega), if_neg (by omega)]
      · obtain ⟨A, hA⟩ : ∃ A, alongF 4 x y = A := ⟨_, rfl⟩
        have hR' : R = if A < 2 * c then -1 else if 2 * c < A then 1 else 0 := by rw [HF.out]; unfold sideP; rw [hA]
        have HR' := Lib.hid hR'
        have HA := Lib.hid hA
        have hix := rulesIx4
        have hfd := rulesFd
        clear hA hR'
        go_upto_region 3 with fail
        go_region_held3 (fun w' => w'.cell? ⟨N, 0, none⟩ = some (.int .u8 4) ∧ w'.cell? ⟨N + 1, 0, none⟩ = some (.int .i64 x) ∧ w'.cell? ⟨N + 1, 1, none⟩ = some (.int .i64 y))
          (first | exact ⟨a0, p0', p1'⟩ | go_keep)
          (first
            | (go_at_call 236; (with_reducible refine (rules_any _).mono ?_); rintro e w4 ⟨p, q, rfl, hb4⟩; unfold rulesV fnV; have H3 := H3.call (undrew hb4); have a0 := below_cell (undrew hb4) a0; have a1 := below_cell (undrew hb4) a1; have p0' := below_cell (undrew hb4) p0'; have p1' := below_cell (undrew hb4) p1')
            | (go_at_call 284; (with_reducible refine (ruleAlong4 x y _ HP.out).mono ?_); rintro e w5 ⟨rfl, hb5⟩; rw [HA.out]; have H3 := H3.call hb5; have a0 := below_cell hb5 a0; have a1 := below_cell hb5 a1; have p0' := below_cell hb5 p0'; have p1' := below_cell hb5 p1')
            | fail)
        go_wp2_with fail
        all_goals go_ret
        all_goals refine ⟨ret_int ?_, H3.below⟩
        all_goals rw [HR'.out]
        · rw [if_pos (by omega)]
        · rw [if_neg (by omega), if_pos (by omega)]
        · rw [if_neg (by omega), if_neg (by omega)]
end Go.Proofs.YtdkijcmhjeaofaaGreatDoor
