/- A closed-run executor: its parts Fl to Fq, joined: proved sound against the model. No program is named; the one condition of the whole: the program follows the mixed orders. -/
import Derived.Test.YtcgbdkjelbgcfaaGreatDoorFk
import Derived.Laws.Externs
import Derived.Lib.Bytealg
namespace Go.Proofs.YtcgbdkjelbgcfaaGreatDoor
namespace Ex

inductive TRes where
  | ok (recs : List Rec) (E : List (Nat × St)) (M : St)
  | no (why : List Nat)

/-- The last effect is before this one. -/
noncomputable def chainOk (ops : List Oper) (n i : Nat) (E : List (Nat × St)) : Bool :=
  E.all fun p => isAnc ops n i p.1

/-- The memory that an effect finds. -/
noncomputable def found (ops : List Oper) (n i : Nat) (recs : List Rec) (E : List (Nat × St)) (M : St) : St :=
  absorbP (fun k => isAnc ops n i k && not (E.any fun p => isAnc ops n p.1 k)) recs 0 M

noncomputable def tr (K : Nat) (P : Program) (ext : FuncId → List AV → Option AV) (call : FuncId → List AV → St → CRes) (ops : List Oper) (looks : Oper → List Nat) (n : Nat) (f0 : Fm) (S : St) (l : List Oper) :
    Nat → List Rec → List (Nat × St) → St → TRes :=
  List.rec (motive := fun _ => Nat → List Rec → List (Nat × St) → St → TRes) (fun _ recs E M => .ok recs E M)
    (fun o _ ih i recs E M => match seeG ops f0 recs (preds o) (looks o) with
      | none => .no [50, i]
      | some t => match want ops ⟨t, f0.n⟩ o with
        | none => .no [51, i]
        | some false => ih (Nat.succ i) (recs ++ [.skip]) E M
        | some true => match cls P o.op with
          | .pure => match pureOp P ⟨t, f0.n⟩ o with
            | some v => ih (Nat.succ i) (recs ++ [.val v]) E M
            | none => .no [52, i]
          | .read => match readOp P ⟨t, f0.n⟩ M o with
            | some v => ih (Nat.succ i) (recs ++ [.read v]) E M
            | none => .no [53, i]
          | .alloc => match allocOp P (Nat.add S.next i) ⟨t, f0.n⟩ o with
            | some (v, B) => ih (Nat.succ i) (recs ++ [.mk (Nat.add S.next i) B v]) E M
            | none => .no [54, i]
          | .eff => match chainOk ops n i E with
            | false => .no [55, i]
            | true => match effOp K P ⟨t, f0.n⟩ (found ops n i recs E M) o with
              | some (v, M1) => ih (Nat.succ i) (recs ++ [.eff v (found ops n i recs E M) M1]) (E ++ [(i, M1)]) M1
              | none => .no [56, i]
          | .call => match o.op with
            | .call c => match callee ⟨t, f0.n⟩ c with
              | some (h, vs) => match ext h vs with
                | some v => ih (Nat.succ i) (recs ++ [.val v]) E M
                | none => match chainOk ops n i E with
                  | false => .no [57, i]
                  | true => match call h vs (found ops n i recs E M) with
                    | .ok v M1 => ih (Nat.succ i) (recs ++ [.eff v (found ops n i recs E M) M1]) (E ++ [(i, M1)]) M1
                    | .no w => .no (58 :: i :: w)
              | none => .no [59, i]
            | _ => .no [60, i]
          | .no => .no [61, i]) l

/-- Equality of values, where it can be seen. -/
noncomputable def avEq1 : AV → AV → Bool
  | .bool a, .bool b => match a, b with
    | true, true => true
    | false, false => true
    | _, _ => false
  | .int j m, .int k n => ksame j k && ieq m n
  | .str l, .str r => leq l r
  | .ptr i o, .ptr j q => Nat.beq i j && Nat.beq o q
  | .nilPtr, .nilPtr => true
  | .sl i o l c, .sl j q m d => Nat.beq i j && (Nat.beq o q && (Nat.beq l m && Nat.beq c d))
  | .slu i o l s b, .slu j q m t c => Nat.beq i j && (Nat.beq o q && (Nat.beq l m && (Nat.beq s t && Nat.beq b c)))
  | .nilSl, .nilSl => true
  | .map i, .map j => Nat.beq i j
  | .nilMap, .nilMap => true
  | .nilFunc, .nilFunc => true
  | .nilIface, .nilIface => true
  | _, _ => false
noncomputable def avEqL (l : List AV) : List AV → Bool :=
  List.rec (motive := fun _ => List AV → Bool) (fun r => match r with
    | [] => true
    | _ => false) (fun x _ ih r => match r with
    | [] => false
    | y :: r => avEq1 x y && ih r) l
noncomputable def avEq : AV → AV → Bool
  | .agg l, .agg r => avEqL l r
  | .func f [], .func g [] => Nat.beq f g
  | .tup l, .tup r => avEqL l r
  | u, v => avEq1 u v

/-- A read gives the same wherever it may stand. -/
noncomputable def readEq (P : Program) (g : Fm) (o : Oper) (v : AV) (M : St) : Bool := match readOp P g M o with
  | some u => avEq u v
  | none => false
noncomputable def rdOk (P : Program) (ops : List Oper) (looks : Oper → List Nat) (n : Nat) (f0 : Fm) (M0 : St) (recs : List Rec) (E : List (Nat × St)) (i : Nat) (o : Oper) (v : AV) : Bool :=
  match seeG ops f0 recs (preds o) (looks o) with
  | none => false
  | some t => (E.any (fun p => isAnc ops n i p.1) || readEq P ⟨t, f0.n⟩ o v M0) &&
      E.all fun p => isAnc ops n p.1 i || ((E.any fun q => isAnc ops n i q.1 && isAnc ops n q.1 p.1) || readEq P ⟨t, f0.n⟩ o v p.2)
noncomputable def rdsOk (P : Program) (ops : List Oper) (looks : Oper → List Nat) (n : Nat) (f0 : Fm) (M0 : St) (all : List Rec) (E : List (Nat × St)) (l : List Oper) : Nat → List Rec → Bool :=
  List.rec (motive := fun _ => Nat → List Rec → Bool) (fun _ _ => true)
    (fun o _ ih i recs => match recs with
      | [] => false
      | .read v :: recs => rdOk P ops looks n f0 M0 all E i o v && ih (Nat.succ i) recs
      | _ :: recs => ih (Nat.succ i) recs) l

/-- The slots behind all. -/
noncomputable def putAll (l : List Oper) : List Rec → Tr AV → Tr AV :=
  List.rec (motive := fun _ => List Rec → Tr AV → Tr AV) (fun _ t => t)
    (fun o _ ih recs t => match recs with
      | [] => t
      | r :: recs => match o.dst with
        | none => ih recs t
        | some d => ih recs (t.to d r.out)) l

/-- What must be so of the operations. -/
noncomputable def dstsOk (n : Nat) (l : List Oper) : Bool :=
  List.rec true (fun o l ih => (match o.dst with
    | none => true
    | some d => Nat.blt d n && (match writer d l with
      | none => true
      | some _ => false)) && ih) l
noncomputable def backOk (l : List Oper) : Nat → Bool :=
  List.rec (motive := fun _ => Nat → Bool) (fun _ => true) (fun o _ ih i => (preds o).all (fun j => Nat.blt j i) && ih (Nat.succ i)) l

/-- A region that draws its order. -/
noncomputable def doDrawn (K : Nat) (P : Program) (ext : FuncId → List AV → Option AV) (call : FuncId → List AV → St → CRes) (id : Nat) (ops : Array Oper) (f : Fm) (S : St) : Res :=
  match dstsOk f.n ops.toList && (backOk ops.toList 0 && (Nat.blt f.n 1048575 && Nat.blt (Nat.add S.next ops.size) 1048575)) with
  | false => .no [70, id]
  | true => match tr K P ext call ops.toList (fun o => o.looksAt ops) ops.size f S ops.toList 0 [] [] ⟨S.heap, Nat.add S.next ops.size⟩ with
    | .no w => .no (71 :: id :: w)
    | .ok recs E M => match rdsOk P ops.toList (fun o => o.looksAt ops) ops.size f ⟨S.heap, Nat.add S.next ops.size⟩ recs E ops.toList 0 recs with
      | false => .no [72, id]
      | true => .normal ⟨putAll ops.toList recs f.t, f.n⟩ (absorbP (fun k => not (E.any fun p => isAnc ops.toList ops.size p.1 k)) recs 0 M)

end Ex
end Go.Proofs.YtcgbdkjelbgcfaaGreatDoor
namespace Go.Proofs.YtcgbdkjelbgcfaaGreatDoor
namespace Ex

variable {P : Program} {K : Nat} {ext : FuncId → List AV → Option AV} {call : FuncId → List AV → St → CRes} {ops : Array Oper} {f0 : Fm} {S : St}

/-- One operation of the pass. -/
def StepR (K : Nat) (P : Program) (ext : FuncId → List AV → Option AV) (call : FuncId → List AV → St → CRes) (ops : Array Oper) (f0 : Fm) (S : St) (i : Nat) (o : Oper) (recs : List Rec) (E : List (Nat × St)) (M : St) (r : Rec) (E1 : List (Nat × St)) (M1 : St) : Prop :=
  ∃ t, seeG ops.toList f0 recs (preds o) (o.looksAt ops) = some t ∧ match r with
    | .skip => want ops.toList ⟨t, f0.n⟩ o = some false ∧ E1 = E ∧ M1 = M
    | .val v => (want ops.toList ⟨t, f0.n⟩ o = some true ∧ (pureOp P ⟨t, f0.n⟩ o = some v ∨ ∃ (c : Call) (h : FuncId) (vs : List AV), o.op = .call c ∧ callee ⟨t, f0.n⟩ c = some (h, vs) ∧ ext h vs = some v)) ∧ E1 = E ∧ M1 = M
    | .read _ => want ops.toList ⟨t, f0.n⟩ o = some true ∧ E1 = E ∧ M1 = M
    | .mk id B v => (id = S.next + i ∧ want ops.toList ⟨t, f0.n⟩ o = some true ∧ allocOp P id ⟨t, f0.n⟩ o = some (v, B)) ∧ E1 = E ∧ M1 = M
    | .eff v Ma M1' => (Ma = found ops.toList ops.size i recs E M ∧ chainOk ops.toList ops.size i E = true ∧ want ops.toList ⟨t, f0.n⟩ o = some true ∧
        (effOp K P ⟨t, f0.n⟩ Ma o = some (v, M1') ∨ ∃ (c : Call) (h : FuncId) (vs : List AV), o.op = .call c ∧ callee ⟨t, f0.n⟩ c = some (h, vs) ∧ call h vs Ma = .ok v M1')) ∧ E1 = E ++ [(i, M1')] ∧ M1 = M1'

/-- What the pass can come to. -/
inductive Run (K : Nat) (P : Program) (ext : FuncId → List AV → Option AV) (call : FuncId → List AV → St → CRes) (ops : Array Oper) (f0 : Fm) (S : St) : Nat → List Rec → List (Nat × St) → St → Prop
  | nil : Run K P ext call ops f0 S 0 [] [] ⟨S.heap, S.next + ops.size⟩
  | step {i : Nat} {o : Oper} {recs : List Rec} {E : List (Nat × St)} {M : St} {r : Rec} {E1 : List (Nat × St)} {M1 : St} : Run K P ext call ops f0 S i recs E M → ops[i]? = some o → StepR K P ext call ops f0 S i o recs E M r E1 M1 →
      Run K P ext call ops f0 S (i + 1) (recs ++ [r]) E1 M1

theorem tr_run : ∀ (l : List Oper) (i : Nat) (recs : List Rec) (E : List (Nat × St)) (M : St) {recs' : List Rec} {E' : List (Nat × St)} {M' : St}, (∀ j, l[j]? = ops.toList[i + j]?) → Run K P ext call ops f0 S i recs E M →
    tr K P ext call ops.toList (fun o => o.looksAt ops) ops.size f0 S l i recs E M = .ok recs' E' M' → Run K P ext call ops f0 S (i + l.length) recs' E' M'
  | [], i, recs, E, M, recs', E', M', hl, h, ht => by
    have ht : TRes.ok recs E M = .ok recs' E' M' := ht
    injection ht with e1 e2 e3; subst e1; subst e2; subst e3; exact h
  | o :: l, i, recs, E, M, recs', E', M', hl, h, ht => by
    have ho : ops[i]? = some o := by have := hl 0; simpa using this.symm
    have hl' : ∀ j, l[j]? = ops.toList[i + 1 + j]? := fun j => by have := hl (j + 1); simp only [List.getElem?_cons_succ] at this; rw [this]; congr 1; omega
    have go : ∀ r E1 M1, StepR K P ext call ops f0 S i o recs E M r E1 M1 → tr K P ext call ops.toList (fun o => o.looksAt ops) ops.size f0 S l (i + 1) (recs ++ [r]) E1 M1 = .ok recs' E' M' →
        Run K P ext call ops f0 S (i + (o :: l).length) recs' E' M' := by
      intro r E1 M1 hs ht
      have := tr_run l (i + 1) (recs ++ [r]) E1 M1 hl' (.step h ho hs) ht
      have e : i + (o :: l).length = i + 1 + l.length := by simp; omega
      rw [e]; exact this
    unfold tr at ht
    simp only at ht
    split at ht
    · cases ht
    · rename_i t hsee
      split at ht
      · cases ht
      · rename_i hw
        exact go .skip E M ⟨t, hsee, hw, rfl, rfl⟩ ht
      · rename_i hw
        split at ht
        · split at ht
          · rename_i v hv
            exact go (.val v) E M ⟨t, hsee, ⟨hw, .inl hv⟩, rfl, rfl⟩ ht
          · cases ht
        · split at ht
          · rename_i v hv
            exact go (.read v) E M ⟨t, hsee, hw, rfl, rfl⟩ ht
          · cases ht
        · split at ht
          · rename_i v B hv
            exact go (.mk (S.next + i) B v) E M ⟨t, hsee, ⟨rfl, hw, hv⟩, rfl, rfl⟩ ht
          · cases ht
        · split at ht
          · cases ht
          · rename_i hc
            split at ht
            · rename_i v M1 hv
              exact go (.eff v _ M1) _ M1 ⟨t, hsee, ⟨rfl, hc, hw, .inl hv⟩, rfl, rfl⟩ ht
            · cases ht
        · split at ht
          · rename_i c hcop
            split at ht
            · rename_i g vs hg
              split at ht
              · rename_i v hv
                exact go (.val v) E M ⟨t, hsee, ⟨hw, .inr ⟨c, g, vs, hcop, hg, hv⟩⟩, rfl, rfl⟩ ht
              · split at ht
                · cases ht
                · rename_i hc
                  split at ht
                  · rename_i v M1 hv
                    exact go (.eff v _ M1) _ M1 ⟨t, hsee, ⟨rfl, hc, hw, .inr ⟨c, g, vs, hcop, hg, hv⟩⟩, rfl, rfl⟩ ht
                  · cases ht
            · cases ht
          · cases ht
        · cases ht

end Ex
end Go.Proofs.YtcgbdkjelbgcfaaGreatDoor
namespace Go.Proofs.YtcgbdkjelbgcfaaGreatDoor
namespace Ex

variable {P : Program} {K : Nat} {ext : FuncId → List AV → Option AV} {call : FuncId → List AV → St → CRes} {ops : Array Oper} {f0 : Fm} {S : St}

theorem get_snoc {α : Type} {l : List α} {x y : α} {k : Nat} (h : (l ++ [x])[k]? = some y) : (k < l.length ∧ l[k]? = some y) ∨ (k = l.length ∧ y = x) := by
  by_cases hk : k < l.length
  · rw [List.getElem?_append_left hk] at h; exact .inl ⟨hk, h⟩
  · rw [List.getElem?_append_right (by omega)] at h
    have : k - l.length = 0 := by
      by_cases h0 : k - l.length = 0
      · exact h0
      · rw [List.getElem?_eq_none (by simp; omega)] at h; cases h
    rw [this] at h; simp at h
    exact .inr ⟨by omega, h.symm⟩
theorem get_left {α : Type} {l r : List α} {y : α} {k : Nat} (h : l[k]? = some y) : (l ++ r)[k]? = some y := by
  have hk : k < l.length := by
    by_cases hk : k < l.length
    · exact hk
    · rw [List.getElem?_eq_none (by omega)] at h; cases h
  rw [List.getElem?_append_left hk]; exact h

theorem slotOf_mono {l : List Oper} {recs tail : List Rec} {ps : List Nat} {t : Nat} {x : Option AV} (h : slotOf l f0 recs ps t = some x) : slotOf l f0 (recs ++ tail) ps t = some x := by
  unfold slotOf at h ⊢
  split at h
  · exact h
  · rename_i j hw
    split at h
    · rename_i r hp hr
      simp only [hp, get_left hr]; exact h
    · cases h
theorem seeG_mono {l : List Oper} {recs tail : List Rec} {ps : List Nat} : ∀ {ts : List Nat} {t : Tr AV}, seeG l f0 recs ps ts = some t → seeG l f0 (recs ++ tail) ps ts = some t
  | [], _, h => h
  | s :: ts, t, h => by
    have h : (match seeG l f0 recs ps ts with
      | none => none
      | some tr => match Nat.blt s 1048575, slotOf l f0 recs ps s with
        | true, some (some v) => some (tr.to s v)
        | true, some none => some tr
        | _, _ => none) = some t := h
    show (match seeG l f0 (recs ++ tail) ps ts with
      | none => none
      | some tr => match Nat.blt s 1048575, slotOf l f0 (recs ++ tail) ps s with
        | true, some (some v) => some (tr.to s v)
        | true, some none => some tr
        | _, _ => none) = some t
    split at h
    · cases h
    · rename_i tr htr
      rw [seeG_mono htr]
      split at h
      · rename_i v hb hs; simp only [hb, slotOf_mono hs]; exact h
      · rename_i hb hs; simp only [hb, slotOf_mono hs]; exact h
      · cases h

/-- What is asked of one record. -/
def RecOk (K : Nat) (P : Program) (ext : FuncId → List AV → Option AV) (call : FuncId → List AV → St → CRes) (ops : Array Oper) (g : Fm) (o : Oper) : Rec → Prop
  | .skip => want ops.toList g o = some false
  | .val v => want ops.toList g o = some true ∧ (pureOp P g o = some v ∨ ∃ (c : Call) (h : FuncId) (vs : List AV), o.op = .call c ∧ callee g c = some (h, vs) ∧ ext h vs = some v)
  | .read _ => want ops.toList g o = some true
  | .mk id B v => want ops.toList g o = some true ∧ allocOp P id g o = some (v, B)
  | .eff v Ma M1 => want ops.toList g o = some true ∧ (effOp K P g Ma o = some (v, M1) ∨ ∃ (c : Call) (h : FuncId) (vs : List AV), o.op = .call c ∧ callee g c = some (h, vs) ∧ call h vs Ma = .ok v M1)

structure Facts (K : Nat) (P : Program) (ext : FuncId → List AV → Option AV) (call : FuncId → List AV → St → CRes) (ops : Array Oper) (f0 : Fm) (S : St) (i : Nat) (recs : List Rec) (E : List (Nat × St)) (M : St) : Prop where
  len : recs.length = i
  ids : ∀ (k id : Nat) (B : AB) (v : AV), recs[k]? = some (.mk id B v) → id = S.next + k
  op : ∀ (j : Nat) (o : Oper) (r : Rec), ops[j]? = some o → recs[j]? = some r → ∃ t, seeG ops.toList f0 recs (preds o) (o.looksAt ops) = some t ∧ RecOk K P ext call ops ⟨t, f0.n⟩ o r
  e1 : ∀ (e : Nat) (v : AV) (Ma M1 : St), recs[e]? = some (.eff v Ma M1) → (e, M1) ∈ E
  e2 : ∀ (e : Nat) (M1 : St), (e, M1) ∈ E → e < i ∧ ∃ v Ma, recs[e]? = some (.eff v Ma M1)
  e3 : ∀ (e e' : Nat) (M1 M1' : St), (e, M1) ∈ E → (e', M1') ∈ E → e < e' → Anc ops e' e
  e4 : (E = [] ∧ M = ⟨S.heap, S.next + ops.size⟩) ∨ ∃ e, (e, M) ∈ E ∧ ∀ e' M1', (e', M1') ∈ E → e' ≤ e
  e5 : ∀ (e : Nat) (v : AV) (Ma M1 : St), recs[e]? = some (.eff v Ma M1) → ∃ Mp, (((∀ e' M', (e', M') ∈ E → ¬ e' < e) ∧ Mp = ⟨S.heap, S.next + ops.size⟩) ∨ ∃ e', (e', Mp) ∈ E ∧ e' < e ∧ ∀ e'' M'', (e'', M'') ∈ E → e'' < e → e'' ≤ e') ∧
    Ma.next = Mp.next ∧ ∀ id A, Ma.heap.at id = some A → Mp.heap.at id = some A ∨ ∃ (k : Nat) (u : AV), recs[k]? = some (.mk id A u) ∧ Anc ops e k ∧ ∀ e' M', (e', M') ∈ E → e' < e → ¬ Anc ops e' k

theorem run_facts (hb : ∀ (i : Nat) (o : Oper) (j : Nat), ops[i]? = some o → j ∈ preds o → j < i) (hlim : S.next + ops.size < 1048575) {i : Nat} {recs : List Rec} {E : List (Nat × St)} {M : St} (h : Run K P ext call ops f0 S i recs E M) :
    Facts K P ext call ops f0 S i recs E M := by
  induction h with
  | nil => exact {
      len := rfl
      ids := fun k id B v h => by simp at h
      op := fun j o r _ h => by simp at h
      e1 := fun e v Ma M1 h => by simp at h
      e2 := fun e M1 h => by simp at h
      e3 := fun e e' M1 M1' h => by simp at h
      e4 := .inl ⟨rfl, rfl⟩
      e5 := fun e v Ma M1 h => by simp at h }
  | @step i o recs E M r E1 M1 hrun ho hs F =>
    obtain ⟨t, hsee, hr⟩ := hs
    have hi : i < ops.size := by
      by_cases h : i < ops.size
      · exact h
      · rw [Array.getElem?_eq_none (by omega)] at ho; cases ho
    have hop : RecOk K P ext call ops ⟨t, f0.n⟩ o r := by
      cases r with
      | skip => exact hr.1
      | val v => exact hr.1
      | read v => exact hr.1
      | mk id B v => exact hr.1.2
      | eff v Ma M1' => exact ⟨hr.1.2.2.1, hr.1.2.2.2⟩
    have hid : ∀ (k id : Nat) (B : AB) (v : AV), (recs ++ [r])[k]? = some (.mk id B v) → id = S.next + k := by
      intro k id B v hk
      rcases get_snoc hk with ⟨_, hk⟩ | ⟨e, hk⟩
      · exact F.ids k id B v hk
      · subst hk; rw [e, F.len]; exact hr.1.1
    have hops : ∀ (j : Nat) (q : Oper) (s : Rec), ops[j]? = some q → (recs ++ [r])[j]? = some s → ∃ t, seeG ops.toList f0 (recs ++ [r]) (preds q) (q.looksAt ops) = some t ∧ RecOk K P ext call ops ⟨t, f0.n⟩ q s := by
      intro j q s hq hs
      rcases get_snoc hs with ⟨_, hs⟩ | ⟨e, hs⟩
      · obtain ⟨t', h1, h2⟩ := F.op j q s hq hs
        exact ⟨t', seeG_mono h1, h2⟩
      · subst hs
        rw [e, F.len, ho] at hq; injection hq with hq; subst hq
        exact ⟨t, seeG_mono hsee, hop⟩
    by_cases he : r.isEff = true
    · cases r with
      | eff v Ma M1' =>
        obtain ⟨⟨c1, c2, _⟩, c3, c4⟩ := hr
        subst c3; subst c4
        have hmem : ∀ {e : Nat} {N : St}, (e, N) ∈ E ++ [(i, M1)] ↔ (e, N) ∈ E ∨ (e = i ∧ N = M1) := by
          intro e N; rw [List.mem_append]; simp
        have hnew : ∀ {e : Nat} {N : St}, (e, N) ∈ E → Anc ops i e := by
          intro e N hm
          unfold chainOk at c2
          rw [List.all_eq_true] at c2
          exact isAnc_ok (c2 _ hm)
        have hlt : ∀ {e : Nat} {N : St}, (e, N) ∈ E → e < i := fun hm => (F.e2 _ _ hm).1
        exact {
          len := by simp [F.len]
          ids := hid
          op := hops
          e1 := fun e u Na N1 hk => by
            rw [hmem]
            rcases get_snoc hk with ⟨_, hk⟩ | ⟨e0, hk⟩
            · exact .inl (F.e1 e u Na N1 hk)
            · injection hk with k1 k2 k3; exact .inr ⟨by rw [e0, F.len], k3⟩
          e2 := fun e N hm => by
            rcases hmem.1 hm with hm | ⟨e0, e1⟩
            · obtain ⟨q1, u, Na, q2⟩ := F.e2 e N hm
              exact ⟨by omega, u, Na, get_left q2⟩
            · subst e0; subst e1
              exact ⟨by omega, v, Ma, by rw [← F.len]; simp⟩
          e3 := fun e e' N N' hm hm' hlt' => by
            rcases hmem.1 hm with hm1 | ⟨e0, _⟩ <;> rcases hmem.1 hm' with hm1' | ⟨e0', _⟩
            · exact F.e3 e e' N N' hm1 hm1' hlt'
            · rw [e0']; exact hnew hm1
            · have := hlt hm1'; omega
            · omega
          e4 := .inr ⟨i, hmem.2 (.inr ⟨rfl, rfl⟩), fun e' N hm => by
            rcases hmem.1 hm with hm | ⟨e0, _⟩
            · exact Nat.le_of_lt (hlt hm)
            · omega⟩
          e5 := fun e u Na N1 hk => by
            rcases get_snoc hk with ⟨hkl, hk⟩ | ⟨e0, hk⟩
            · obtain ⟨Mp, q1, q2, q3⟩ := F.e5 e u Na N1 hk
              rw [F.len] at hkl
              refine ⟨Mp, ?_, q2, fun id A hA => ?_⟩
              · rcases q1 with ⟨r1, r2⟩ | ⟨e', r1, r2, r3⟩
                · exact .inl ⟨fun e' N hm => by
                    rcases hmem.1 hm with hm | ⟨e0, _⟩
                    · exact r1 e' N hm
                    · omega, r2⟩
                · exact .inr ⟨e', hmem.2 (.inl r1), r2, fun e'' N hm hl => by
                    rcases hmem.1 hm with hm | ⟨e0, _⟩
                    · exact r3 e'' N hm hl
                    · omega⟩
              · rcases q3 id A hA with h | ⟨k, u', h1, h2, h3⟩
                · exact .inl h
                · exact .inr ⟨k, u', get_left h1, h2, fun e' N hm hl => by
                    rcases hmem.1 hm with hm | ⟨e0, _⟩
                    · exact h3 e' N hm hl
                    · omega⟩
            · injection hk with k1 k2 k3; subst k2; subst k3
              have e0 : e = i := by rw [e0, F.len]
              subst e0
              refine ⟨M, ?_, by rw [c1]; exact absorbP_next _ _ _ _, fun id A hA => ?_⟩
              · rcases F.e4 with ⟨r1, r2⟩ | ⟨e', r1, r2⟩
                · exact .inl ⟨fun e' N hm hl => by
                    rcases hmem.1 hm with hm | ⟨e1, _⟩
                    · rw [r1] at hm; simp at hm
                    · omega, r2⟩
                · exact .inr ⟨e', hmem.2 (.inl r1), hlt r1, fun e'' N hm hl => by
                    rcases hmem.1 hm with hm | ⟨e1, _⟩
                    · exact r2 e'' N hm
                    · omega⟩
              · rw [c1] at hA
                rcases absorbP_at _ recs 0 M (fun k id B u hk => by
                    have := F.ids k id B u hk
                    have hkl : k < recs.length := by
                      by_cases h : k < recs.length
                      · exact h
                      · rw [List.getElem?_eq_none (by omega)] at hk; cases hk
                    rw [F.len] at hkl; omega) id A hA with h | ⟨k, u', h1, h2⟩
                · exact .inl h
                · simp only [Bool.and_eq_true, Bool.not_eq_true', Nat.zero_add] at h2
                  refine .inr ⟨k, u', get_left h1, isAnc_ok h2.1, fun e' N hm hl ha => ?_⟩
                  rcases hmem.1 hm with hm | ⟨e1, _⟩
                  · have hany := h2.2
                    rw [List.any_eq_false] at hany
                    exact hany _ hm (isAnc_all hb ha _ (by omega))
                  · omega }
      | _ => cases he
    · have hE : E1 = E ∧ M1 = M := by
        cases r with
        | skip => exact hr.2
        | val v => exact hr.2
        | read v => exact hr.2
        | mk id B v => exact hr.2
        | eff v Ma M1' => exact absurd rfl he
      obtain ⟨e1, e2⟩ := hE; subst e1; subst e2
      have hne : ∀ {e : Nat} {u : AV} {Na N1 : St}, (recs ++ [r])[e]? = some (.eff u Na N1) → recs[e]? = some (.eff u Na N1) := by
        intro e u Na N1 hk
        rcases get_snoc hk with ⟨_, hk⟩ | ⟨_, hk⟩
        · exact hk
        · subst hk; exact absurd rfl he
      exact {
        len := by simp [F.len]
        ids := hid
        op := hops
        e1 := fun e u Na N1 hk => F.e1 e u Na N1 (hne hk)
        e2 := fun e N hm => by
          obtain ⟨q1, u, Na, q2⟩ := F.e2 e N hm
          exact ⟨by omega, u, Na, get_left q2⟩
        e3 := F.e3
        e4 := F.e4
        e5 := fun e u Na N1 hk => by
          obtain ⟨Mp, q1, q2, q3⟩ := F.e5 e u Na N1 (hne hk)
          refine ⟨Mp, q1, q2, fun id A hA => ?_⟩
          rcases q3 id A hA with h | ⟨k, u', h1, h2, h3⟩
          · exact .inl h
          · exact .inr ⟨k, u', get_left h1, h2, h3⟩ }

end Ex
end Go.Proofs.YtcgbdkjelbgcfaaGreatDoor
namespace Go.Proofs.YtcgbdkjelbgcfaaGreatDoor
namespace Ex

variable {P : Program} {ops : Array Oper} {f0 : Fm} {S : St}

theorem dstsOk_ok {n : Nat} : ∀ {l : List Oper}, dstsOk n l = true → (∀ (i : Nat) (o : Oper) (d : Nat), l[i]? = some o → o.dst = some d → d < n) ∧ (∀ (i j : Nat) (oi oj : Oper) (d : Nat), l[i]? = some oi → l[j]? = some oj → oi.dst = some d → oj.dst = some d → i = j)
  | [], _ => ⟨fun i o d h => by simp at h, fun i j oi oj d h => by simp at h⟩
  | o :: l, h => by
    have h : ((match o.dst with
      | none => true
      | some d => Nat.blt d n && (match writer d l with
        | none => true
        | some _ => false)) && dstsOk n l) = true := h
    rw [Bool.and_eq_true] at h
    obtain ⟨h1, h2⟩ := dstsOk_ok h.2
    have hd : ∀ d, o.dst = some d → d < n ∧ writer d l = none := by
      intro d hd
      have := h.1
      rw [hd] at this
      simp only [Bool.and_eq_true] at this
      refine ⟨by have := this.1; rwa [Nat.blt_eq] at this, ?_⟩
      cases hw : writer d l with
      | none => rfl
      | some k => rw [hw] at this; cases this.2
    constructor
    · intro i q d hi hq
      cases i with
      | zero => simp at hi; subst hi; exact (hd d hq).1
      | succ i => exact h1 i q d (by simpa using hi) hq
    · intro i j oi oj d hi hj hdi hdj
      cases i with
      | zero =>
        simp at hi; subst hi
        cases j with
        | zero => rfl
        | succ j => exact absurd hdj (writer_none (hd d hdi).2 j oj (by simpa using hj))
      | succ i =>
        cases j with
        | zero => simp at hj; subst hj; exact absurd hdi (writer_none (hd d hdj).2 i oi (by simpa using hi))
        | succ j => rw [h2 i j oi oj d (by simpa using hi) (by simpa using hj) hdi hdj]

theorem backOk_ok : ∀ {l : List Oper} {k : Nat}, backOk l k = true → ∀ (i : Nat) (o : Oper) (j : Nat), l[i]? = some o → j ∈ preds o → j < k + i
  | [], _, _, i, o, j, h, _ => by simp at h
  | x :: l, k, h, i, o, j, hi, hj => by
    have h : ((preds x).all (fun j => Nat.blt j k) && backOk l (k + 1)) = true := h
    rw [Bool.and_eq_true, List.all_eq_true] at h
    cases i with
    | zero => simp at hi; subst hi; have := h.1 j hj; rw [Nat.blt_eq] at this; exact this
    | succ i => have := backOk_ok h.2 i o j (by simpa using hi) hj; omega

theorem putAll_ok {n : Nat} (hn : n < 1048575) : ∀ {l : List Oper} {recs : List Rec} {t : Tr AV}, dstsOk n l = true → recs.length = l.length → ∀ s v, (putAll l recs t).at s = some v →
    (∃ (j : Nat) (oj : Oper) (r : Rec), l[j]? = some oj ∧ oj.dst = some s ∧ recs[j]? = some r ∧ v = r.out) ∨ ((∀ (j : Nat) (oj : Oper), l[j]? = some oj → oj.dst ≠ some s) ∧ t.at s = some v)
  | [], recs, t, _, _, s, v, h => .inr ⟨fun j oj hj => by simp at hj, h⟩
  | o :: l, [], t, _, hl, s, v, h => by simp at hl
  | o :: l, r :: recs, t, hd, hl, s, v, h => by
    have hd0 : dstsOk n l = true := by
      have hd : ((match o.dst with
        | none => true
        | some d => Nat.blt d n && (match writer d l with
          | none => true
          | some _ => false)) && dstsOk n l) = true := hd
      rw [Bool.and_eq_true] at hd; exact hd.2
    obtain ⟨d1, d2⟩ := dstsOk_ok hd
    have hl' : recs.length = l.length := by simpa using hl
    have h : (match o.dst with
      | none => putAll l recs t
      | some d => putAll l recs (t.to d r.out)).at s = some v := h
    have next : ∀ t', (putAll l recs t').at s = some v → (t'.at s = some v → (∀ (j : Nat) (oj : Oper), l[j]? = some oj → oj.dst ≠ some s) →
        (∃ (j : Nat) (oj : Oper) (r' : Rec), (o :: l)[j]? = some oj ∧ oj.dst = some s ∧ (r :: recs)[j]? = some r' ∧ v = r'.out) ∨ ((∀ (j : Nat) (oj : Oper), (o :: l)[j]? = some oj → oj.dst ≠ some s) ∧ t.at s = some v)) →
        (∃ (j : Nat) (oj : Oper) (r' : Rec), (o :: l)[j]? = some oj ∧ oj.dst = some s ∧ (r :: recs)[j]? = some r' ∧ v = r'.out) ∨ ((∀ (j : Nat) (oj : Oper), (o :: l)[j]? = some oj → oj.dst ≠ some s) ∧ t.at s = some v) := by
      intro t' h k
      rcases putAll_ok hn hd0 hl' s v h with ⟨j, oj, r', h1, h2, h3, h4⟩ | ⟨h1, h2⟩
      · exact .inl ⟨j + 1, oj, r', by simpa using h1, h2, by simpa using h3, h4⟩
      · exact k h2 h1
    cases hod : o.dst with
    | none =>
      rw [hod] at h
      refine next t h fun h1 h2 => .inr ⟨fun j oj hj => ?_, h1⟩
      cases j with
      | zero => simp at hj; subst hj; rw [hod]; simp
      | succ j => exact h2 j oj (by simpa using hj)
    | some d =>
      rw [hod] at h
      refine next _ h fun h1 h2 => ?_
      have hdn := d1 0 o d (by simp) hod
      rw [Tr.at_to _ _ _ _ (by omega)] at h1
      by_cases e : s = d
      · rw [if_pos e] at h1; injection h1 with h1
        subst e
        exact .inl ⟨0, o, r, by simp, hod, by simp, h1.symm⟩
      · rw [if_neg e] at h1
        refine .inr ⟨fun j oj hj => ?_, h1⟩
        cases j with
        | zero => simp at hj; subst hj; rw [hod]; intro h; injection h with h; exact e h.symm
        | succ j => exact h2 j oj (by simpa using hj)

theorem avEq1_ok {u v : AV} (h : avEq1 u v = true) : u = v := by
  unfold avEq1 at h
  split at h <;> first
    | rfl
    | (split at h <;> first | rfl | cases h)
    | cases h
    | (simp only [Bool.and_eq_true] at h
       first
        | (rw [ksame_eq h.1]; have := h.2; rw [ieq_eq] at this; rw [of_decide_eq_true this])
        | (rw [Nat.eq_of_beq_eq_true h.1, Nat.eq_of_beq_eq_true h.2])
        | (rw [Nat.eq_of_beq_eq_true h.1, Nat.eq_of_beq_eq_true h.2.1, Nat.eq_of_beq_eq_true h.2.2.1, Nat.eq_of_beq_eq_true h.2.2.2])
        | (rw [Nat.eq_of_beq_eq_true h.1, Nat.eq_of_beq_eq_true h.2.1, Nat.eq_of_beq_eq_true h.2.2.1, Nat.eq_of_beq_eq_true h.2.2.2.1, Nat.eq_of_beq_eq_true h.2.2.2.2]))
    | (rw [leq_eq] at h; rw [of_decide_eq_true h])
    | (rw [Nat.eq_of_beq_eq_true h])
theorem avEqL_ok : ∀ {l r : List AV}, avEqL l r = true → l = r
  | [], [], _ => rfl
  | [], _ :: _, h => by cases h
  | _ :: _, [], h => by cases h
  | x :: l, y :: r, h => by
    have h : (avEq1 x y && avEqL l r) = true := h
    rw [Bool.and_eq_true] at h
    rw [avEq1_ok h.1, avEqL_ok h.2]
theorem avEq_ok {u v : AV} (h : avEq u v = true) : u = v := by
  unfold avEq at h
  split at h
  · rw [avEqL_ok h]
  · rw [Nat.eq_of_beq_eq_true h]
  · rw [avEqL_ok h]
  · exact avEq1_ok h

theorem rdsOk_ok {l0 : List Oper} {looks : Oper → List Nat} {n : Nat} {M0 : St} {all : List Rec} {E : List (Nat × St)} : ∀ {l : List Oper} {k : Nat} {recs : List Rec}, rdsOk P l0 looks n f0 M0 all E l k recs = true →
    ∀ (i : Nat) (o : Oper) (v : AV), l[i]? = some o → recs[i]? = some (.read v) → rdOk P l0 looks n f0 M0 all E (k + i) o v = true
  | [], _, _, _, i, o, v, h, _ => by simp at h
  | x :: l, k, [], h, i, o, v, hi, hr => by simp at hr
  | x :: l, k, r :: recs, h, i, o, v, hi, hr => by
    have hrest : rdsOk P l0 looks n f0 M0 all E l (k + 1) recs = true ∧ ∀ u, r = .read u → rdOk P l0 looks n f0 M0 all E k x u = true := by
      cases r with
      | read u =>
        have h : (rdOk P l0 looks n f0 M0 all E k x u && rdsOk P l0 looks n f0 M0 all E l (k + 1) recs) = true := h
        rw [Bool.and_eq_true] at h
        exact ⟨h.2, fun u' e => by injection e with e; subst e; exact h.1⟩
      | skip => exact ⟨h, fun u e => by cases e⟩
      | val _ => exact ⟨h, fun u e => by cases e⟩
      | mk _ _ _ => exact ⟨h, fun u e => by cases e⟩
      | eff _ _ _ => exact ⟨h, fun u e => by cases e⟩
    cases i with
    | zero => simp at hi hr; subst hi; exact hrest.2 v hr
    | succ i =>
      have := rdsOk_ok hrest.1 i o v (by simpa using hi) (by simpa using hr)
      have e : k + 1 + i = k + (i + 1) := by omega
      rw [e] at this; exact this

theorem absorbP_miss (c : Nat → Bool) : ∀ (recs : List Rec) (k : Nat) (M : St) (id : Nat), (∀ (i : Nat) (B : AB) (v : AV), recs[i]? ≠ some (.mk id B v)) → (∀ (i id : Nat) (B : AB) (v : AV), recs[i]? = some (.mk id B v) → id < 1048575) →
    (absorbP c recs k M).heap.at id = M.heap.at id
  | [], _, _, _, _, _ => rfl
  | r :: recs, k, M, id, h, hl => by
    have h' : ∀ (i : Nat) (B : AB) (v : AV), recs[i]? ≠ some (.mk id B v) := fun i B v => by have := h (i + 1) B v; simpa using this
    have hl' : ∀ (i id : Nat) (B : AB) (v : AV), recs[i]? = some (.mk id B v) → id < 1048575 := fun i id B v hi => hl (i + 1) id B v (by simpa using hi)
    cases r with
    | mk id' B v =>
      show (Bool.rec (absorbP c recs (k + 1) M) (absorbP c recs (k + 1) ⟨M.heap.to id' B, M.next⟩) (c k) : St).heap.at id = _
      cases c k with
      | false => exact absorbP_miss c recs (k + 1) M id h' hl'
      | true =>
        refine (absorbP_miss c recs (k + 1) ⟨M.heap.to id' B, M.next⟩ id h' hl').trans ?_
        show (M.heap.to id' B).at id = _
        rw [Tr.at_to _ _ _ _ (hl 0 id' B v (by simp)), if_neg]
        intro e; subst e; exact h 0 B v (by simp)
    | skip => exact absorbP_miss c recs (k + 1) M id h' hl'
    | val _ => exact absorbP_miss c recs (k + 1) M id h' hl'
    | read _ => exact absorbP_miss c recs (k + 1) M id h' hl'
    | eff _ _ _ => exact absorbP_miss c recs (k + 1) M id h' hl'

theorem absorbP_hit (c : Nat → Bool) : ∀ (recs : List Rec) (k : Nat) (M : St), (∀ (i j id : Nat) (B B' : AB) (v v' : AV), recs[i]? = some (.mk id B v) → recs[j]? = some (.mk id B' v') → i = j) → (∀ (i id : Nat) (B : AB) (v : AV), recs[i]? = some (.mk id B v) → id < 1048575) →
    ∀ (i id : Nat) (B : AB) (v : AV), recs[i]? = some (.mk id B v) → c (k + i) = true → (absorbP c recs k M).heap.at id = some B
  | [], _, _, _, _, i, id, B, v, h, _ => by simp at h
  | r :: recs, k, M, hu, hl, i, id, B, v, h, hc => by
    have hu' : ∀ (i j id : Nat) (B B' : AB) (v v' : AV), recs[i]? = some (.mk id B v) → recs[j]? = some (.mk id B' v') → i = j := fun i j id B B' v v' h1 h2 => by
      have := hu (i + 1) (j + 1) id B B' v v' (by simpa using h1) (by simpa using h2); omega
    have hl' : ∀ (i id : Nat) (B : AB) (v : AV), recs[i]? = some (.mk id B v) → id < 1048575 := fun i id B v hi => hl (i + 1) id B v (by simpa using hi)
    cases i with
    | zero =>
      simp at h; subst h
      show (Bool.rec (absorbP c recs (k + 1) M) (absorbP c recs (k + 1) ⟨M.heap.to id B, M.next⟩) (c k) : St).heap.at id = _
      have hc : c k = true := by simpa using hc
      rw [hc]
      refine (absorbP_miss c recs (k + 1) ⟨M.heap.to id B, M.next⟩ id (fun j B' v' hj => ?_) hl').trans ?_
      · have := hu 0 (j + 1) id B B' v v' (by simp) (by simpa using hj); omega
      · show (M.heap.to id B).at id = _
        rw [Tr.at_to _ _ _ _ (hl 0 id B v (by simp)), if_pos rfl]
    | succ i =>
      have h : recs[i]? = some (.mk id B v) := by simpa using h
      have hc : c (k + 1 + i) = true := by rw [← hc]; congr 1; omega
      cases r with
      | mk id' B' v' =>
        show (Bool.rec (absorbP c recs (k + 1) M) (absorbP c recs (k + 1) ⟨M.heap.to id' B', M.next⟩) (c k) : St).heap.at id = _
        cases c k with
        | false => exact absorbP_hit c recs (k + 1) M hu' hl' i id B v h hc
        | true => exact absorbP_hit c recs (k + 1) _ hu' hl' i id B v h hc
      | skip => exact absorbP_hit c recs (k + 1) M hu' hl' i id B v h hc
      | val _ => exact absorbP_hit c recs (k + 1) M hu' hl' i id B v h hc
      | read _ => exact absorbP_hit c recs (k + 1) M hu' hl' i id B v h hc
      | eff _ _ _ => exact absorbP_hit c recs (k + 1) M hu' hl' i id B v h hc

end Ex
end Go.Proofs.YtcgbdkjelbgcfaaGreatDoor
namespace Go.Proofs.YtcgbdkjelbgcfaaGreatDoor
namespace Ex

variable {P : Program} {K : Nat} {ext : FuncId → List AV → Option AV} {call : FuncId → List AV → St → CRes} {ops : Array Oper} {f0 : Fm} {S : St}

theorem good_of {recs : List Rec} {E : List (Nat × St)} {M : St} (hd : dstsOk f0.n ops.toList = true) (hbk : backOk ops.toList 0 = true) (hn : f0.n < 1048575) (hlim : S.next + ops.size < 1048575)
    (ht : tr K P ext call ops.toList (fun o => o.looksAt ops) ops.size f0 S ops.toList 0 [] [] ⟨S.heap, S.next + ops.size⟩ = .ok recs E M)
    (hrd : rdsOk P ops.toList (fun o => o.looksAt ops) ops.size f0 ⟨S.heap, S.next + ops.size⟩ recs E ops.toList 0 recs = true) :
    (Tc.mk ops f0 S recs).Good K P ext call ⟨putAll ops.toList recs f0.t, f0.n⟩ (absorbP (fun k => not (E.any fun p => isAnc ops.toList ops.size p.1 k)) recs 0 M) := by
  have hb : ∀ (i : Nat) (o : Oper) (j : Nat), ops[i]? = some o → j ∈ preds o → j < i := fun i o j hi hj => by
    have := backOk_ok hbk i o j (by simpa using hi) hj; omega
  have hrun := tr_run ops.toList 0 [] [] _ (fun j => by simp) Run.nil ht
  have F := run_facts hb hlim hrun
  have hlen : recs.length = ops.size := by rw [F.len]; simp
  obtain ⟨d1, d2⟩ := dstsOk_ok hd
  have isE : ∀ {e : Nat}, (Tc.mk ops f0 S recs).IsE e → ∃ N, (e, N) ∈ E := fun ⟨Ma, M1, v, h⟩ => ⟨M1, F.e1 _ v Ma M1 h⟩
  have ofE : ∀ {e : Nat} {N : St}, (e, N) ∈ E → ∃ Ma, (Tc.mk ops f0 S recs).Ef e Ma N := fun hm => by
    obtain ⟨_, v, Ma, h⟩ := F.e2 _ _ hm; exact ⟨Ma, v, h⟩
  have ltE : ∀ {e : Nat} {N : St}, (e, N) ∈ E → e < ops.size := fun hm => by have := (F.e2 _ _ hm).1; simpa using this
  have idlt : ∀ (i id : Nat) (B : AB) (v : AV), recs[i]? = some (.mk id B v) → id < 1048575 := fun i id B v h => by
    have := F.ids i id B v h
    have hk : i < recs.length := by
      by_cases h' : i < recs.length
      · exact h'
      · rw [List.getElem?_eq_none (by omega)] at h; cases h
    omega
  have iduniq : ∀ (i j id : Nat) (B B' : AB) (v v' : AV), recs[i]? = some (.mk id B v) → recs[j]? = some (.mk id B' v') → i = j := fun i j id B B' v v' h1 h2 => by
    have := F.ids i id B v h1; have := F.ids j id B' v' h2; omega
  have efU : ∀ {e : Nat} {Ma N Ma' N' : St}, (Tc.mk ops f0 S recs).Ef e Ma N → (Tc.mk ops f0 S recs).Ef e Ma' N' → N = N' := by
    rintro e Ma N Ma' N' ⟨v, h⟩ ⟨v', h'⟩
    have h : recs[e]? = _ := h
    have h' : recs[e]? = _ := h'
    rw [h] at h'; injection h' with h'; injection h'
  exact {
    len := hlen
    lim := hlim
    dsts := fun i j oi oj d hi hj => d2 i j oi oj d (by simpa using hi) (by simpa using hj)
    fits := ⟨hn, fun i o d hi => d1 i o d (by simpa using hi)⟩
    chain := fun e e' he he' => by
      obtain ⟨N, hm⟩ := isE he; obtain ⟨N', hm'⟩ := isE he'
      rcases Nat.lt_trichotomy e e' with h | h | h
      · exact .inr (.inr (F.e3 e e' N N' hm hm' h))
      · exact .inl h
      · exact .inr (.inl (F.e3 e' e N' N hm' hm h))
    irr := fun e _ h => absurd (anc_lt hb h) (Nat.lt_irrefl _)
    back := hb
    ids := F.ids
    op := fun i o r ho hr => by
      obtain ⟨t, h1, h2⟩ := F.op i o r ho hr
      refine ⟨⟨t, f0.n⟩, ⟨rfl, fun s v hs => seeG_ok h1 s v hs⟩, ?_⟩
      cases r with
      | skip => exact h2
      | val v => exact h2
      | mk id B v => exact h2
      | eff v Ma M1 => exact h2
      | read v =>
        refine ⟨h2, fun L N hdn hnl hp hc => ?_⟩
        have hr' : rdOk P ops.toList (fun o => o.looksAt ops) ops.size f0 ⟨S.heap, S.next + ops.size⟩ recs E i o v = true := by
          have := rdsOk_ok hrd i o v (by simpa using ho) hr
          rw [Nat.zero_add] at this; exact this
        unfold rdOk at hr'
        simp only at hr'
        rw [h1] at hr'
        simp only [Bool.and_eq_true, Bool.or_eq_true, List.any_eq_true, List.all_eq_true] at hr'
        have anc : ∀ {k : Nat}, Anc ops i k → Lst L k := by
          intro k ha
          cases ha with
          | one hq hj => rw [ho] at hq; injection hq with hq; subst hq; exact hp _ hj
          | more hq hj ha => rw [ho] at hq; injection hq with hq; subst hq; exact ha.lst hdn (hp _ hj)
        have eq : ∀ {N : St}, readEq P ⟨t, f0.n⟩ o v N = true → readOp P ⟨t, f0.n⟩ N o = some v := by
          intro N h
          unfold readEq at h
          split at h
          · rename_i u hu; rw [hu, avEq_ok h]
          · cases h
        rcases hc with ⟨c1, c2⟩ | ⟨e, Ma, c1, c2, c3⟩
        · have c2 : N = ⟨S.heap, S.next + ops.size⟩ := c2
          subst c2
          rcases hr'.1 with ⟨p, hp1, hp2⟩ | h
          · obtain ⟨Ma, hE⟩ := ofE hp1
            exact absurd (anc (isAnc_ok hp2)) (c1 p.1 ⟨_, _, hE⟩)
          · exact eq h
        · obtain ⟨u, hu⟩ := c1
          have hm := F.e1 e u Ma N hu
          rcases hr'.2 _ hm with h | ⟨q, hq1, hq2⟩ | h
          · exact absurd ((isAnc_ok h).lst hdn c2) hnl
          · obtain ⟨Mq, hEq⟩ := ofE hq1
            have hlq := anc (isAnc_ok hq2.1)
            have hlt := anc_lt hb (isAnc_ok hq2.2)
            rcases c3 q.1 ⟨_, _, hEq⟩ hlq with h | h
            · have hlt : e < q.1 := hlt
              omega
            · have := anc_lt hb h
              have hlt : e < q.1 := hlt
              have : q.1 < e := this
              omega
          · exact eq h
    absorb := by
      rintro e Ma M1 ⟨v, h⟩
      obtain ⟨Mp, q1, q2, q3⟩ := F.e5 e v Ma M1 h
      refine ⟨Mp, ?_, q2, fun id A hA => ?_⟩
      · rcases q1 with ⟨r1, r2⟩ | ⟨e', r1, r2, r3⟩
        · exact .inl ⟨fun e' he' ha => by obtain ⟨N, hm⟩ := isE he'; exact r1 e' N hm (anc_lt hb ha), r2⟩
        · obtain ⟨Me, hEe⟩ := ofE r1
          have hme := F.e1 e v Ma M1 h
          refine .inr ⟨e', Me, hEe, F.e3 e' e Mp M1 r1 hme r2, fun e'' he'' ha => ?_⟩
          obtain ⟨N, hm⟩ := isE he''
          have hle := r3 e'' N hm (anc_lt hb ha)
          rcases Nat.lt_or_eq_of_le hle with hl | hl
          · exact .inr (F.e3 e'' e' N Mp hm r1 hl)
          · exact .inl hl
      · rcases q3 id A hA with h | ⟨k, u, h1, h2, h3⟩
        · exact .inl h
        · exact .inr ⟨k, u, h1, h2, fun e' he' ha => by obtain ⟨N, hm⟩ := isE he'; exact h3 e' N hm (anc_lt hb ha)⟩
    last := fun L N hall hc => by
      have hM : N = M := by
        rcases F.e4 with ⟨r1, r2⟩ | ⟨eL, r1, r2⟩
        · rcases hc with ⟨_, c2⟩ | ⟨e, Ma, c1, _, _⟩
          · have c2 : N = ⟨S.heap, S.next + ops.size⟩ := c2
            rw [c2, r2]
          · obtain ⟨N', hm⟩ := isE ⟨_, _, c1⟩
            rw [r1] at hm; simp at hm
        · obtain ⟨ML, hEL⟩ := ofE r1
          rcases hc with ⟨c1, _⟩ | ⟨e, Ma, c1, c2, c3⟩
          · exact absurd (hall eL (ltE r1)) (c1 eL ⟨_, _, hEL⟩)
          · obtain ⟨N', hm⟩ := isE ⟨_, _, c1⟩
            have h1 := r2 e N' hm
            rcases c3 eL ⟨_, _, hEL⟩ (hall eL (ltE r1)) with h | h
            · subst h; exact efU c1 hEL
            · have : eL < e := anc_lt hb h
              omega
      subst hM
      refine ⟨absorbP_next _ _ _ _, fun H hH id A hA => ?_⟩
      have flc : ∀ {k : Nat}, (¬ (Tc.mk ops f0 S recs).Abs L k) → (not (E.any fun p => isAnc ops.toList ops.size p.1 k)) = true := by
        intro k hna
        rw [Bool.not_eq_true', List.any_eq_false]
        intro p hp ha
        obtain ⟨Mq, hEq⟩ := ofE hp
        exact hna ⟨p.1, ⟨_, _, hEq⟩, hall p.1 (ltE hp), isAnc_ok ha⟩
      have fla : ∀ {k : Nat}, (not (E.any fun p => isAnc ops.toList ops.size p.1 k)) = true → ¬ (Tc.mk ops f0 S recs).Abs L k := by
        rintro k hk ⟨e, he, _, ha⟩
        obtain ⟨N', hm⟩ := isE he
        rw [Bool.not_eq_true', List.any_eq_false] at hk
        exact hk _ hm (isAnc_all hb ha _ (ltE hm))
      have klt : ∀ {k : Nat} {r : Rec}, recs[k]? = some r → k < ops.size := by
        intro k r h
        by_cases h' : k < recs.length
        · omega
        · rw [List.getElem?_eq_none (by omega)] at h; cases h
      by_cases hfl : ∃ B, (Tc.mk ops f0 S recs).Fl L id B
      · obtain ⟨B, k, u, hk, hl, hna⟩ := hfl
        have hhit := absorbP_hit (fun k => not (E.any fun p => isAnc ops.toList ops.size p.1 k)) recs 0 N iduniq idlt k id B u hk (by rw [Nat.zero_add]; exact flc hna)
        rw [hhit] at hA; injection hA with hA; subst hA
        exact hH.1 id B ⟨k, u, hk, hl, hna⟩
      · rcases absorbP_at _ recs 0 N idlt id A hA with h | ⟨k, u, h1, h2⟩
        · rw [hH.2 id fun B hB => hfl ⟨B, hB⟩]; exact h
        · rw [Nat.zero_add] at h2
          exact absurd ⟨A, k, u, h1, hall k (klt h1), fla h2⟩ hfl
    frame := ⟨rfl, fun s v hs => by
      rcases putAll_ok hn hd (by rw [hlen]; simp) s v hs with ⟨j, oj, r, h1, h2, h3, h4⟩ | ⟨h1, h2⟩
      · exact .inl ⟨j, oj, r, by simpa using h1, h2, h3, h4⟩
      · exact .inr ⟨fun j oj hj => h1 j oj (by simpa using hj), h2⟩⟩ }

theorem doDrawn_ok (hm : P.follows .mixedOrders = true) (hext : ExtOk P ext) (hcall : CallOk K P call) : DrawnOk K P (doDrawn K P ext call) := by
  intro id ops f S ρ a w Q hf hw hK h
  unfold doDrawn at h
  split at h
  · exact h.elim
  · rename_i hc
    simp only [Bool.and_eq_true, Nat.blt_eq] at hc
    obtain ⟨c1, c2, c3, c4⟩ := hc
    split at h
    · exact h.elim
    · rename_i recs E M ht
      split at h
      · exact h.elim
      · rename_i hrd
        exact Tc.drawn_ok (T := ⟨ops, f, S, recs⟩) hm hext hcall (good_of c1 c2 c3 c4 ht hrd) hf hw hK h

/-- THE EXECUTOR: what it says of a call holds of the call in every world that holds what S tells. -/
theorem run_sound (hm : P.follows .mixedOrders = true) (hext : ExtOk P ext) (n : Nat) : CallOk K P (run K P ext (fun call => doDrawn K P ext call) n) :=
  run_ok hext (fun _ hc => doDrawn_ok hm hext hc) n

end Ex
end Go.Proofs.YtcgbdkjelbgcfaaGreatDoor
namespace Go.Proofs.YtcgbdkjelbgcfaaGreatDoor
namespace Ex

variable {P : Program}

noncomputable def cntL (c : Nat) (l : List Nat) : Nat := List.rec 0 (fun x _ ih => Bool.rec ih (Nat.succ ih) (Nat.beq x c)) l
noncomputable def idxL (c : Nat) (l : List Nat) : Option Nat := List.rec none (fun x _ ih => Bool.rec (Option.rec none (fun n => some (Nat.succ n)) ih) (some 0) (Nat.beq x c)) l

theorem u8_eq {x c : Nat} (hx : x < 256) (hc : c < 256) : (UInt8.ofNat x == UInt8.ofNat c) = Nat.beq x c := by
  by_cases h : x = c
  · subst h; rw [beq_t rfl]; simp
  · rw [beq_f h]
    cases hb : (UInt8.ofNat x == UInt8.ofNat c) with
    | false => rfl
    | true =>
      have := congrArg UInt8.toNat (eq_of_beq hb)
      simp [Nat.mod_eq_of_lt hx, Nat.mod_eq_of_lt hc] at this
      exact absurd this h

theorem cntL_ok {c : Nat} (hc : c < 256) : ∀ (l : List Nat), (∀ b ∈ l, b < 256) → Lib.countByte (l.map UInt8.ofNat) (UInt8.ofNat c) = cntL c l
  | [], _ => rfl
  | x :: l, h => by
    have hx := h x (by simp)
    have ih := cntL_ok hc l fun b hb => h b (by simp [hb])
    have e : cntL c (x :: l) = (Bool.rec (cntL c l) (Nat.succ (cntL c l)) (Nat.beq x c) : Nat) := rfl
    unfold Lib.countByte at ih ⊢
    rw [e, List.map_cons, List.count_cons, u8_eq hx hc, ih]
    cases Nat.beq x c <;> rfl

theorem idxL_ok {c : Nat} (hc : c < 256) : ∀ (l : List Nat), (∀ b ∈ l, b < 256) → Lib.indexByte (l.map UInt8.ofNat) (UInt8.ofNat c) = match idxL c l with | some n => (n : Int) | none => -1
  | [], _ => rfl
  | x :: l, h => by
    have hx := h x (by simp)
    have ih := idxL_ok hc l fun b hb => h b (by simp [hb])
    have e : idxL c (x :: l) = (Bool.rec (Option.rec none (fun n => some (Nat.succ n)) (idxL c l)) (some 0) (Nat.beq x c) : Option Nat) := rfl
    rw [e, List.map_cons]
    show (if UInt8.ofNat x == UInt8.ofNat c then (0 : Int) else if Lib.indexByte (l.map UInt8.ofNat) (UInt8.ofNat c) == -1 then -1 else Lib.indexByte (l.map UInt8.ofNat) (UInt8.ofNat c) + 1) = _
    rw [u8_eq hx hc, ih]
    cases Nat.beq x c with
    | true => rfl
    | false =>
      cases idxL c l with
      | none => rfl
      | some n =>
        have h1 : (((n : Nat) : Int) == -1) = false := by simp
        simp [h1]

/-- The three functions, by their numbers. -/
noncomputable def ext3 (gN gC gI : FuncId) : FuncId → List AV → Option AV := fun g vs =>
  match Nat.beq g gN, vs with
  | true, [v] => some v
  | _, _ => match Nat.beq g gC, vs with
    | true, [.str l, .int .u8 (.ofNat c)] => Bool.rec none (some (fNat (cntL c l) fun n => .int .i64 (.ofNat n))) (Nat.blt c 256)
    | _, _ => match Nat.beq g gI, vs with
      | true, [.str l, .int .u8 (.ofNat c)] => Bool.rec none (some (match idxL c l with | some n => fNat n fun n => .int .i64 (.ofNat n) | none => .int .i64 (.negSucc 0))) (Nat.blt c 256)
      | _, _ => none

theorem ext3_ok {gN gC gI : FuncId} (hN : ∀ x w, (callFunc gN #[x]).run P w = .ok (.value x) w)
    (hC : ∀ args w, (callFunc gC args).run P w = ((Extern.BytealgCount.count args).run P w).andThen fun v w' => .ok (.value v) w')
    (hI : ∀ args w, (callFunc gI args).run P w = ((Extern.BytealgIndexByte.indexByte args).run P w).andThen fun v w' => .ok (.value v) w') : ExtOk P (ext3 gN gC gI) := by
  intro g vs v h ρ xs w hx
  unfold ext3 at h
  have byte : ∀ {l : List Nat} {c : Nat}, vs = [.str l, .int .u8 (.ofNat c)] → xs = [.string (bytesOf l), .int .u8 (c : Int)] ∧ ∀ b ∈ l, b < 256 := by
    intro l c e
    subst e
    simp only [VRL, VR] at hx
    obtain ⟨y, ys, rfl, ⟨e1, hb⟩, z, zs, rfl, e2, rfl⟩ := hx
    subst e1; subst e2; exact ⟨rfl, hb⟩
  split at h
  · rename_i u hg
    have := Nat.eq_of_beq_eq_true hg; subst this
    injection h with h; subst h
    simp only [VRL] at hx
    obtain ⟨y, ys, rfl, hy, rfl⟩ := hx
    exact ⟨y, hN y w, hy⟩
  · split at h
    · rename_i l c hg _
      have := Nat.eq_of_beq_eq_true hg; subst this
      obtain ⟨e, hb⟩ := byte rfl
      subst e
      by_cases hc : c < 256
      · rw [blt_t hc] at h
        simp only [Option.some.injEq, fNat_eq] at h; subst h
        refine ⟨.int .i64 (cntL c l), ?_, by simp only [VR]; rfl⟩
        rw [hC, Lib.run_countString]
        have e1 : (bytesOf l).data.toList = l.map UInt8.ofNat := by simp [bytesOf]
        have e2 : (c : Int).toNat.toUInt8 = UInt8.ofNat c := by simp
        rw [e1, e2, cntL_ok hc l hb]; rfl
      · rw [blt_f hc] at h; cases h
    · split at h
      · rename_i l c hg _ _
        have := Nat.eq_of_beq_eq_true hg; subst this
        obtain ⟨e, hb⟩ := byte rfl
        subst e
        by_cases hc : c < 256
        · rw [blt_t hc] at h
          simp only [Option.some.injEq] at h
          have e1 : (bytesOf l).data.toList = l.map UInt8.ofNat := by simp [bytesOf]
          have e2 : (c : Int).toNat.toUInt8 = UInt8.ofNat c := by simp
          refine ⟨.int .i64 (match idxL c l with | some n => (n : Int) | none => -1), ?_, ?_⟩
          · rw [hI]
            have := Lib.run_indexByteString (P := P) (bytesOf l) c w
            rw [e1, e2, idxL_ok hc l hb] at this
            rw [this]; rfl
          · cases hi : idxL c l with
            | none => rw [hi] at h; subst h; simp only [VR]; rfl
            | some n => rw [hi] at h; simp only [fNat_eq] at h; subst h; simp only [VR]; rfl
        · rw [blt_f hc] at h; cases h
      · cases h

end Ex
end Go.Proofs.YtcgbdkjelbgcfaaGreatDoor
