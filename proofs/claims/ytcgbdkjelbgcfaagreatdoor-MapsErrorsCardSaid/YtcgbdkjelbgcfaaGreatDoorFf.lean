/- A closed-run executor: its parts Fa to Ff, joined: proved sound against the model. No program is named; the one condition of the whole: the program follows the mixed orders. -/
import Derived.Test.YtcgbdkjelbgcfaaGreatDoorEy
import Derived.Orders
namespace Go.Proofs.YtcgbdkjelbgcfaaGreatDoor
namespace Ex

inductive Cls where
  | pure | read | alloc | eff | call | no
def cls (P : Program) : Op → Cls
  | .move _ | .assign _ | .pick .. | .binOp .. | .unOp .. | .fieldAddr .. | .field .. | .indexAddr .. | .index .. | .slice .. | .extract .. | .build .. | .nilCheck _ | .makeInterface .. | .makeFunc .. => .pure
  | .load .. | .lookup .. => .read
  | .convert _ dst _ => match P.underlying dst with
    | some (.slice _) => .alloc
    | _ => .read
  | .alloc _ | .box .. | .makeSlice .. | .buildSlice .. | .makeMap .. => .alloc
  | .store .. | .mapUpdate .. => .eff
  | .call c => match c.callee with
    | .builtin b => match b with
      | .len | .cap | .min | .max => .pure
      | .unsafeSliceData => .read
      | .append | .copy | .unsafeString => .eff
      | _ => .no
    | .value _ => .call
    | _ => .no
  | _ => .no

inductive Res where
  | normal (f : Fm) (S : St)
  | exit (id : Nat) (f : Fm) (S : St)
  | ret (f : Fm) (S : St)
  | no (why : List Nat)

inductive CRes where
  | ok (v : AV) (S : St)
  | no (why : List Nat)

/-- What a call of a function value enters. -/
noncomputable def callee (f : Fm) (c : Call) : Option (FuncId × List AV) :=
  match c.callee with
  | .value x => match aev f x, mapO (aev f) c.args.toList with
    | some (.func g cap), some vs => some (g, vs ++ cap)
    | _, _ => none
  | _ => none

/-- Whether an operation is wanted: its guard. -/
noncomputable def want (ops : List Oper) (f : Fm) (o : Oper) : Option Bool :=
  match o.guard with
  | none => some true
  | some (j, b) => match ops[j]? with
    | some q => match q.dst with
      | some d => match f.t.at d with
        | some (.bool c) => some (c == b)
        | some (.tup []) => some false
        | _ => none
      | none => none
    | none => none

/-- A slot is written, if there is such a slot. -/
noncomputable def putK (f : Fm) (d : Option Nat) (v : AV) (k : Fm → Res) (no : Res) : Res :=
  match d with
  | none => k f
  | some d => Bool.rec no (k ⟨f.t.to d v, f.n⟩) (Nat.blt d f.n && Nat.blt f.n 1048575)

/-- A new block in memory. -/
noncomputable def addB (S : St) (B : AB) (k : St → Res) (no : Res) : Res :=
  Bool.rec no (k ⟨S.heap.to S.next B, Nat.succ S.next⟩) (Nat.blt (Nat.succ S.next) 1048575)

/-- One operation. -/
noncomputable def doOp (K : Nat) (P : Program) (ext : FuncId → List AV → Option AV) (call : FuncId → List AV → St → CRes) (f : Fm) (S : St) (o : Oper) (k : Fm → St → Res) (why : List Nat) : Res :=
  match cls P o.op with
  | .pure => match pureOp P f o with
    | some v => putK f o.dst v (fun f => k f S) (.no (1 :: why))
    | none => .no (2 :: why)
  | .read => match readOp P f S o with
    | some v => putK f o.dst v (fun f => k f S) (.no (3 :: why))
    | none => .no (4 :: why)
  | .alloc => match allocOp P S.next f o with
    | some (v, B) => addB S B (fun S => putK f o.dst v (fun f => k f S) (.no (5 :: why))) (.no (6 :: why))
    | none => .no (7 :: why)
  | .eff => match effOp K P f S o with
    | some (v, S) => putK f o.dst v (fun f => k f S) (.no (8 :: why))
    | none => .no (9 :: why)
  | .call => match o.op with
    | .call c => match callee f c with
      | some (g, vs) => match ext g vs with
        | some v => putK f o.dst v (fun f => k f S) (.no (10 :: why))
        | none => match call g vs S with
          | .ok v S => putK f o.dst v (fun f => k f S) (.no (11 :: why))
          | .no w => .no (12 :: w ++ why)
      | none => .no (13 :: why)
    | _ => .no (14 :: why)
  | .no => .no (15 :: why)

noncomputable def doOps (K : Nat) (P : Program) (ext : FuncId → List AV → Option AV) (call : FuncId → List AV → St → CRes) (ops : List Oper) (id : Nat) (l : List Oper) : Fm → St → Res :=
  List.rec (motive := fun _ => Fm → St → Res) (fun f S => .normal f S)
    (fun o l ih f S => match want ops f o with
      | some true => doOp K P ext call f S o ih [id, l.length]
      | some false => putK f o.dst (.tup []) (fun f => ih f S) (.no [16, id, l.length])
      | none => .no [17, id, l.length]) l

/-- The results of a function. -/
noncomputable def resOf (P : Program) (f : Fm) (S : St) (r : ResultVar) : Option AV := match r with
  | .tmp t => f.t.at t
  | .cell a t => match f.t.at a with
    | some p => aLoad P S t p
    | none => none
noncomputable def aRes (P : Program) (fn : Func) (f : Fm) (S : St) : Option AV :=
  match mapO (resOf P f S) fn.results.toList with
  | some [v] => some v
  | some vs => some (.tup vs)
  | none => none

noncomputable def fin (P : Program) (fn : Func) (g : FuncId) : Res → CRes
  | .normal f S => match aRes P fn f S with
    | some v => .ok v S
    | none => .no [32, g]
  | .ret f S => match aRes P fn f S with
    | some v => .ok v S
    | none => .no [33, g]
  | .exit _ _ _ => .no [34, g]
  | .no w => .no (35 :: g :: w)

noncomputable def callB (P : Program) (run : Code → Fm → St → Res) (g : FuncId) (vs : List AV) (S : St) : CRes :=
  match P.funcs[g]? with
  | none => .no [30, g]
  | some fn => match fn.name == "runtime.NumGoroutine", fn.body with
    | false, some c => match Nat.ble vs.length fn.ntmps && Nat.blt fn.ntmps 1048575 with
      | true => fin P fn g (run c ⟨wr vs .e 0, fn.ntmps⟩ S)
      | false => .no [36, g]
    | _, _ => .no [31, g]

end Ex
end Go.Proofs.YtcgbdkjelbgcfaaGreatDoor
namespace Go.Proofs.YtcgbdkjelbgcfaaGreatDoor
namespace Ex

variable {P : Program}

/-- What is asked of a post-condition, if the executor ends so. -/
def RelQ (K : Nat) (S : St) (ρ : Rho) (w : World) (Q : Exit → Act → World → Prop) : Res → Prop
  | .normal f S' => ∀ a' w' σ, FR σ f a' → WR σ S' w' → Up K S S' ρ σ w → Fr K S ρ w w' → Q .normal a' w'
  | .exit id f S' => ∀ a' w' σ, FR σ f a' → WR σ S' w' → Up K S S' ρ σ w → Fr K S ρ w w' → Q (.exit id) a' w'
  | .ret f S' => ∀ a' w' σ, FR σ f a' → WR σ S' w' → Up K S S' ρ σ w → Fr K S ρ w w' → Q .ret a' w'
  | .no _ => False

theorem RelQ.step {K : Nat} {S S₁ : St} {ρ σ₁ : Rho} {w w₁ : World} {Q : Exit → Act → World → Prop} {r : Res} (h : RelQ K S ρ w Q r) (u : Up K S S₁ ρ σ₁ w) (fr : Fr K S ρ w w₁) : RelQ K S₁ σ₁ w₁ Q r := by
  cases r with
  | normal f S' => exact fun a' w' σ h1 h2 h3 h4 => h a' w' σ h1 h2 (u.trans fr.size h3) (fr.trans u h4)
  | exit id f S' => exact fun a' w' σ h1 h2 h3 h4 => h a' w' σ h1 h2 (u.trans fr.size h3) (fr.trans u h4)
  | ret f S' => exact fun a' w' σ h1 h2 h3 h4 => h a' w' σ h1 h2 (u.trans fr.size h3) (fr.trans u h4)
  | no w => exact h

/-- What a call gives. -/
def CallOk (K : Nat) (P : Program) (call : FuncId → List AV → St → CRes) : Prop :=
  ∀ g vs S v S', call g vs S = .ok v S' → ∀ ρ xs w, VRL ρ vs xs → WR ρ S w → K ≤ S.next →
    (∀ w₀, (callFunc g xs.toArray).run P w₀ = .ok (.enter g xs.toArray) w₀) ∧
    Calls P g xs.toArray w fun e w' => ∃ x σ, e = .returned x ∧ VR σ v x ∧ WR σ S' w' ∧ Up K S S' ρ σ w ∧ Fr K S ρ w w'

def ExtOk (P : Program) (ext : FuncId → List AV → Option AV) : Prop :=
  ∀ g vs v, ext g vs = some v → ∀ ρ xs w, VRL ρ vs xs → ∃ x, (callFunc g xs.toArray).run P w = .ok (.value x) w ∧ VR ρ v x

theorem putK_ok {f : Fm} {d : Option Nat} {v : AV} {k : Fm → Res} {no : Res} {K : Nat} {S : St} {ρ : Rho} {w : World} {Q : Exit → Act → World → Prop} {a : Act} {x : Value} (h : RelQ K S ρ w Q (putK f d v k no)) (hno : RelQ K S ρ w Q no → False)
    (hf : FR ρ f a) (hv : VR ρ v x) : ∃ f', FR ρ f' (a.put d x) ∧ RelQ K S ρ w Q (k f') := by
  cases d with
  | none => exact ⟨f, hf, h⟩
  | some d =>
    have h : RelQ K S ρ w Q (Bool.rec no (k ⟨f.t.to d v, f.n⟩) (Nat.blt d f.n && Nat.blt f.n 1048575)) := h
    cases hc : (Nat.blt d f.n && Nat.blt f.n 1048575) with
    | false => rw [hc] at h; exact (hno h).elim
    | true =>
      rw [hc] at h
      simp only [Bool.and_eq_true, Nat.blt_eq] at hc
      exact ⟨_, hf.put (d := some d) (fun i hi => by injection hi with hi; subst hi; exact hc.1) hc.2 hv, h⟩

theorem want_ok {ops : Array Oper} {f : Fm} {o : Oper} {b : Bool} {ρ : Rho} {a : Act} (h : want ops.toList f o = some b) (hf : FR ρ f a) : Region.wanted o (yielded ops a.tmps) = b := by
  unfold want at h
  unfold Region.wanted
  split at h
  · rename_i hg; rw [hg]; injection h
  · rename_i j c hg; rw [hg]
    split at h
    · rename_i q hq
      have hq : ops[j]? = some q := by simpa using hq
      split at h
      · rename_i d hd
        split at h
        · rename_i c' hc
          obtain ⟨x, hx, hv⟩ := hf.2.2 d _ hc
          simp only [VR] at hv; subst hv
          injection h with h; subst h
          cases c <;> cases c' <;> simp [yielded, hq, hd, hx]
        · rename_i hc
          obtain ⟨x, hx, hv⟩ := hf.2.2 d _ hc
          simp only [VR] at hv
          obtain ⟨xs, e, hxs⟩ := hv
          simp only [VRL] at hxs; subst hxs; subst e
          injection h with h; subst h
          simp [yielded, hq, hd, hx]
        · cases h
      · cases h
    · cases h

theorem callee_ok {f : Fm} {c : Call} {g : FuncId} {vs : List AV} {ρ : Rho} {a : Act} (h : callee f c = some (g, vs)) (hf : FR ρ f a) (ty : TypeId) (w : World) :
    ∃ xs, VRL ρ vs xs ∧ (do let d ← resolve a.eval c ty; invoke d.target d.args : Sem Next).run P w = (callFunc g xs.toArray).run P w := by
  unfold callee at h
  split at h
  · rename_i x hx
    split at h
    · rename_i g' cap us hg hu
      injection h with h; injection h with e1 e2; subst e1; subst e2
      have h1 := aev_ok hf hg
      simp only [VR] at h1
      obtain ⟨ys, e, hys⟩ := h1
      have h2 := mapO_VRL (e := a.eval) (fun x v hx => aev_ok hf hx) hu
      refine ⟨_, h2.append hys, ?_⟩
      have e3 : c.args.map a.eval = (c.args.toList.map a.eval).toArray := by apply Array.ext'; simp
      simp only [resolve, hx, e, Deferred.ofValue, Sem.run_bind, Sem.run_pure, Result.andThen_ok, invoke, e3]
      congr 2
      simp
    · cases h
  · cases h

theorem doOps_ok {K : Nat} {ext : FuncId → List AV → Option AV} {call : FuncId → List AV → St → CRes} (hext : ExtOk P ext) (hcall : CallOk K P call) {ops : Array Oper} {id : Nat} {Q : Exit → Act → World → Prop} :
    ∀ (l : List Oper) (f : Fm) (S : St) (ρ : Rho) (a : Act) (w : World), FR ρ f a → WR ρ S w → K ≤ S.next → RelQ K S ρ w Q (doOps K P ext call ops.toList id l f S) → wpList P ops Q l a w
  | [], f, S, ρ, a, w, hf, hw, hK, h => h a w ρ hf hw (Up.refl K S ρ w) (Fr.refl K S ρ w)
  | o :: l, f, S, ρ, a, w, hf, hw, hK, h => by
    have h : RelQ K S ρ w Q (match want ops.toList f o with
      | some true => doOp K P ext call f S o (doOps K P ext call ops.toList id l) [id, l.length]
      | some false => putK f o.dst (.tup []) (fun f => doOps K P ext call ops.toList id l f S) (.no [16, id, l.length])
      | none => .no [17, id, l.length]) := h
    have ih := doOps_ok hext hcall (ops := ops) (id := id) (Q := Q) l
    unfold wpList
    split at h
    · rename_i hwant
      rw [want_ok hwant hf]
      simp only [if_true]
      left
      unfold doOp at h
      split at h
      · split at h
        · rename_i v hv
          obtain ⟨x, h1, h2⟩ := pureOp_ok hv hf w
          obtain ⟨f', h3, h4⟩ := putK_ok h (fun h => h) hf h2
          rw [Oper.wp, h1, Oper.upon_value]
          exact ih f' S ρ _ w h3 hw hK h4
        · exact h.elim
      · split at h
        · rename_i v hv
          obtain ⟨x, h1, h2⟩ := readOp_ok hv hf hw
          obtain ⟨f', h3, h4⟩ := putK_ok h (fun h => h) hf h2
          rw [Oper.wp, h1, Oper.upon_value]
          exact ih f' S ρ _ w h3 hw hK h4
        · exact h.elim
      · split at h
        · rename_i v B hv
          obtain ⟨x, ob, n, w', h1, h2, h3, h4, h5, h6⟩ := allocOp_ok hv hf w
          unfold addB at h
          cases hc : Nat.blt (Nat.succ S.next) 1048575 with
          | false => rw [hc] at h; exact h.elim
          | true =>
            rw [hc] at h
            rw [Nat.blt_eq] at hc
            have hle := Rho.le_set (p := (w.heap.size, n)) (hw.dom S.next (Nat.le_refl _)).1
            obtain ⟨hv', hB⟩ := h6 _ hle (Rho.set_same _ _ _)
            have hu : Up K S ⟨S.heap.to S.next B, S.next + 1⟩ ρ (ρ.set S.next (w.heap.size, n)) w := Up.set hw hK _ _
            have hfr : Fr K S ρ w w' := ⟨h3, h4, h5, by rw [h2]; simp, fun b hb _ => by rw [h2, Array.getElem?_push, if_neg (by omega)]⟩
            have h := h.step hu hfr
            obtain ⟨f', q3, q4⟩ := putK_ok h (fun h => h) (hf.mono hle) hv'
            rw [Oper.wp, h1, Oper.upon_value]
            exact ih f' _ _ _ w' q3 (hw.new hB h2 hc) (Nat.le_succ_of_le hK) q4
        · exact h.elim
      · split at h
        · rename_i v S' hv
          obtain ⟨x, w', σ, h1, h2, h3, h4, h5⟩ := effOp_ok hv hf hw hK
          have h := h.step h2 h5
          obtain ⟨f', q3, q4⟩ := putK_ok h (fun h => h) (hf.mono h2.le) h4
          rcases h1 with h1 | ⟨h1, hx⟩
          · rw [Oper.wp, h1, Oper.upon_value]
            exact ih f' S' σ _ w' q3 h3 (Nat.le_trans hK h2.next) q4
          · rw [Oper.wp, h1, Oper.upon_skip]
            subst hx
            exact ih f' S' σ _ w' q3 h3 (Nat.le_trans hK h2.next) q4
        · exact h.elim
      · split at h
        · rename_i c hc
          have hex : execOp a.eval o = (do let d ← resolve a.eval c o.type; invoke d.target d.args : Sem Next) := by unfold execOp; rw [hc]
          split at h
          · rename_i g vs hg
            obtain ⟨xs, hxs, hrun⟩ := callee_ok (P := P) hg hf o.type w
            split at h
            · rename_i v hv
              obtain ⟨x, h1, h2⟩ := hext g vs v hv ρ xs w hxs
              obtain ⟨f', h3, h4⟩ := putK_ok h (fun h => h) hf h2
              rw [Oper.wp, hex, hrun, h1, Oper.upon_value]
              exact ih f' S ρ _ w h3 hw hK h4
            · split at h
              · rename_i v S' hv
                obtain ⟨h1, h2⟩ := hcall g vs S v S' hv ρ xs w hxs hw hK
                rw [Oper.wp, hex, hrun, h1, Oper.upon_enter]
                refine h2.mono ?_
                rintro e w' ⟨x, σ, rfl, hx, hw', hu, hfr⟩
                have h := h.step hu hfr
                obtain ⟨f', h3, h4⟩ := putK_ok h (fun h => h) (hf.mono hu.le) hx
                exact ih f' S' σ _ w' h3 hw' (Nat.le_trans hK hu.next) h4
              · exact h.elim
          · exact h.elim
        · exact h.elim
      · exact h.elim
    · rename_i hwant
      rw [want_ok hwant hf]
      simp only [Bool.false_eq_true, if_false]
      obtain ⟨f', h3, h4⟩ := putK_ok h (fun h => h) hf (show VR ρ (.tup []) undef by simp only [VR]; exact ⟨[], rfl, by simp [VRL]⟩)
      exact ih f' S ρ _ w h3 hw hK h4
    · exact h.elim

end Ex
end Go.Proofs.YtcgbdkjelbgcfaaGreatDoor
namespace Go.Proofs.YtcgbdkjelbgcfaaGreatDoor
namespace Ex

variable {P : Program}

/-- The ends that the executor knows. -/
def Known (e : Exit) : Prop := e = .normal ∨ (∃ id, e = .exit id) ∨ e = .ret

theorem exitTo_le {id : Nat} : ∀ {k k' : List Item}, exitTo id k = some k' → k'.length ≤ k.length
  | [], k', h => by simp [exitTo] at h
  | x :: k, k', h => by
    cases x <;> simp only [exitTo] at h <;> first
      | exact Nat.le_succ_of_le (exitTo_le h)
      | (split at h
         · injection h with h; subst h; simp
         · exact Nat.le_succ_of_le (exitTo_le h))

theorem steps_tail {m X m' : Machine} (h : Steps P m m') (hs : step P m = .next X) (hne : m ≠ m') : Steps P X m' := by
  obtain ⟨n, hn⟩ := h
  cases n with
  | zero => simp only [runN] at hn; injection hn with hn; exact absurd hn hne
  | succ n => simp only [runN, hs] at hn; exact ⟨n, hn⟩

theorem todo_ne {b : Frame} {a a' : Act} {t t' : List Item} {cs : List Frame} {w w' : World} (h : t ≠ t') : lone (b.at a t) cs w ≠ lone (b.at a' t') cs w' := by
  intro e
  have e := congrArg (fun m : Machine => (m.gs[0]?).map fun g => g.frame.todo) e
  simp [lone, Frame.at] at e
  exact h e

theorem mode_ne {b : Frame} {a a' : Act} {t t' : List Item} {cs : List Frame} {w w' : World} : lone (b.at a t) cs w ≠ lone { b.at a' t' with mode := .returning } cs w' := by
  intro e
  have e := congrArg (fun m : Machine => (m.gs[0]?).map fun g => (match g.frame.mode with | .run => true | _ => false)) e
  simp [lone, Frame.at] at e

theorem wp_unroll {c : Code} {Q : Exit → Act → World → Prop} {a : Act} {w : World} (hq : ∀ e a w, Q e a w → Known e) (h : c.wp P (Exit.then ((Code.loop c).wp P Q) Q) a w) : (Code.loop c).wp P Q a w := by
  intro b k cs
  obtain ⟨e, a1, w1, hq1, harr⟩ := h b (.inLoop c :: k) cs
  cases e with
  | normal =>
    obtain ⟨e2, a2, w2, hQ, harr2⟩ := hq1 b k cs
    refine ⟨e2, a2, w2, hQ, ?_⟩
    have s1 : Steps P (lone (b.at a (.code (.loop c) :: k)) cs w) (lone (b.at a1 (.code c :: .inLoop c :: k)) cs w1) := .head step_loop (Steps.trans harr (.one step_inLoop))
    refine Arrives.of_steps s1 ?_
    rcases hq e2 a2 w2 hQ with rfl | ⟨id, rfl⟩ | rfl
    · exact steps_tail harr2 step_loop (todo_ne (by intro h; exact absurd (congrArg List.length h) (by simp)))
    · intro k' hk
      exact steps_tail (harr2 k' hk) step_loop (todo_ne (by intro h; have := exitTo_le hk; rw [← h] at this; simp at this; omega))
    · obtain ⟨todo, hs⟩ := harr2
      exact ⟨todo, steps_tail hs step_loop mode_ne⟩
  | exit id => exact ⟨_, a1, w1, hq1, .of_steps (.one step_loop) (.pass (x := .inLoop c) rfl (fun _ _ => .inl (by simp)) harr)⟩
  | goto l => exact ⟨_, a1, w1, hq1, .of_steps (.one step_loop) (.pass (x := .inLoop c) rfl (fun _ _ => .inl (by simp)) harr)⟩
  | ret => exact ⟨_, a1, w1, hq1, .of_steps (.one step_loop) (.pass (x := .inLoop c) rfl (fun _ _ => .inl (by simp)) harr)⟩
  | panic ch => exact ⟨_, a1, w1, hq1, .of_steps (.one step_loop) (.pass (x := .inLoop c) rfl (fun _ _ => .inl (by simp)) harr)⟩
  | outgrown => exact ⟨_, a1, w1, hq1, .of_steps (.one step_loop) (.pass (x := .inLoop c) rfl (fun _ _ => .inl (by simp)) harr)⟩

end Ex
end Go.Proofs.YtcgbdkjelbgcfaaGreatDoor
namespace Go.Proofs.YtcgbdkjelbgcfaaGreatDoor
namespace Ex

variable {P : Program}

/-- A code, by the code that is called and by the rounds that follow. -/
noncomputable def exec1 (K : Nat) (P : Program) (ext : FuncId → List AV → Option AV) (call : FuncId → List AV → St → CRes) (dr : Nat → Array Oper → Fm → St → Res) (again : Code → Fm → St → Res) (c : Code) : Fm → St → Res :=
  Code.rec (motive := fun _ => Fm → St → Res)
    (fun f S => .normal f S)
    (fun id ops draw f S => Bool.rec (doOps K P ext call ops.toList id ops.toList f S) (dr id ops f S) draw)
    (fun _ _ ia ib f S => match ia f S with
      | .normal f S => ib f S
      | r => r)
    (fun x _ _ ia ib f S => match aev f x with
      | some (.bool true) => ia f S
      | some (.bool false) => ib f S
      | _ => .no [20])
    (fun id _ ib f S => match ib f S with
      | .exit j f S => Bool.rec (.exit j f S) (.normal f S) (Nat.beq j id)
      | r => r)
    (fun body ib f S => match ib f S with
      | .normal f S => again (.loop body) f S
      | r => r)
    (fun _ _ _ _ _ _ _ _ => .no [21])
    (fun id f S => .exit id f S)
    (fun _ _ _ _ => .no [22])
    (fun _ f S => .normal f S)
    (fun _ _ _ => .no [23])
    (fun f S => .ret f S)
    (fun _ _ _ => .no [24]) c

def CodeOk (K : Nat) (P : Program) (run : Code → Fm → St → Res) : Prop :=
  ∀ c f S ρ a w Q, FR ρ f a → WR ρ S w → K ≤ S.next → RelQ K S ρ w Q (run c f S) → c.wp P Q a w

def DrawnOk (K : Nat) (P : Program) (dr : Nat → Array Oper → Fm → St → Res) : Prop :=
  ∀ id ops f S ρ a w Q, FR ρ f a → WR ρ S w → K ≤ S.next → RelQ K S ρ w Q (dr id ops f S) → (Code.region id ops true).wp P Q a w

theorem RelQ.known {K : Nat} {S : St} {ρ : Rho} {w : World} {Q : Exit → Act → World → Prop} {r : Res} (h : RelQ K S ρ w Q r) : RelQ K S ρ w (fun e a w => Known e ∧ Q e a w) r := by
  cases r with
  | normal f S' => exact fun a' w' σ h1 h2 h3 h4 => ⟨.inl rfl, h a' w' σ h1 h2 h3 h4⟩
  | exit id f S' => exact fun a' w' σ h1 h2 h3 h4 => ⟨.inr (.inl ⟨id, rfl⟩), h a' w' σ h1 h2 h3 h4⟩
  | ret f S' => exact fun a' w' σ h1 h2 h3 h4 => ⟨.inr (.inr rfl), h a' w' σ h1 h2 h3 h4⟩
  | no w => exact h

theorem exec1_ok {K : Nat} {ext : FuncId → List AV → Option AV} {call : FuncId → List AV → St → CRes} {dr : Nat → Array Oper → Fm → St → Res} {again : Code → Fm → St → Res} (hext : ExtOk P ext) (hcall : CallOk K P call)
    (hdr : DrawnOk K P dr) (hag : CodeOk K P again) : CodeOk K P (exec1 K P ext call dr again) := by
  intro c
  induction c with
  | skip => intro f S ρ a w Q hf hw hK h; exact wp_skip (h a w ρ hf hw (Up.refl K S ρ w) (Fr.refl K S ρ w))
  | region id ops draw =>
    intro f S ρ a w Q hf hw hK h
    cases draw with
    | false => exact wp_region_list (doOps_ok hext hcall ops.toList f S ρ a w hf hw hK h)
    | true => exact hdr id ops f S ρ a w Q hf hw hK h
  | seq x y ihx ihy =>
    intro f S ρ a w Q hf hw hK h
    have h : RelQ K S ρ w Q (match exec1 K P ext call dr again x f S with
      | .normal f S => exec1 K P ext call dr again y f S
      | r => r) := h
    refine wp_seq (ihx f S ρ a w _ hf hw hK ?_)
    cases hr : exec1 K P ext call dr again x f S with
    | normal f' S' =>
      rw [hr] at h
      intro a' w' σ h1 h2 h3 h4
      exact ihy f' S' σ a' w' Q h1 h2 (Nat.le_trans hK h3.next) (h.step h3 h4)
    | exit id f' S' => rw [hr] at h; exact h
    | ret f' S' => rw [hr] at h; exact h
    | no why => rw [hr] at h; exact h
  | cond x y z ihy ihz =>
    intro f S ρ a w Q hf hw hK h
    have h : RelQ K S ρ w Q (match aev f x with
      | some (.bool true) => exec1 K P ext call dr again y f S
      | some (.bool false) => exec1 K P ext call dr again z f S
      | _ => .no [20]) := h
    split at h
    · rename_i hx
      have := aev_ok hf hx; simp only [VR] at this
      exact wp_cond_true this (ihy f S ρ a w Q hf hw hK h)
    · rename_i hx
      have := aev_ok hf hx; simp only [VR] at this
      exact wp_cond_false this (ihz f S ρ a w Q hf hw hK h)
    · exact h.elim
  | block id x ih =>
    intro f S ρ a w Q hf hw hK h
    have h : RelQ K S ρ w Q (match exec1 K P ext call dr again x f S with
      | .exit j f S => Bool.rec (.exit j f S) (.normal f S) (Nat.beq j id)
      | r => r) := h
    refine wp_block (ih f S ρ a w _ hf hw hK ?_)
    cases hr : exec1 K P ext call dr again x f S with
    | normal f' S' => rw [hr] at h; exact h
    | exit j f' S' =>
      rw [hr] at h
      intro a' w' σ h1 h2 h3 h4
      show if j = id then Q .normal a' w' else Q (.exit j) a' w'
      by_cases hj : j = id
      · rw [if_pos hj]
        have h : RelQ K S ρ w Q (Bool.rec (.exit j f' S') (.normal f' S') (Nat.beq j id)) := h
        rw [beq_t hj] at h
        exact h a' w' σ h1 h2 h3 h4
      · rw [if_neg hj]
        have h : RelQ K S ρ w Q (Bool.rec (.exit j f' S') (.normal f' S') (Nat.beq j id)) := h
        rw [beq_f hj] at h
        exact h a' w' σ h1 h2 h3 h4
    | ret f' S' => rw [hr] at h; exact h
    | no why => rw [hr] at h; exact h
  | loop x ih =>
    intro f S ρ a w Q hf hw hK h
    have h := h.known
    refine Code.wp_mono (Q := fun e a w => Known e ∧ Q e a w) (fun e a w q => q.2) (wp_unroll (fun e a w q => q.1) ?_)
    have h : RelQ K S ρ w (fun e a w => Known e ∧ Q e a w) (match exec1 K P ext call dr again x f S with
      | .normal f S => again (.loop x) f S
      | r => r) := h
    refine ih f S ρ a w _ hf hw hK ?_
    cases hr : exec1 K P ext call dr again x f S with
    | normal f' S' =>
      rw [hr] at h
      intro a' w' σ h1 h2 h3 h4
      exact hag (.loop x) f' S' σ a' w' _ h1 h2 (Nat.le_trans hK h3.next) (h.step h3 h4)
    | exit id f' S' => rw [hr] at h; exact h
    | ret f' S' => rw [hr] at h; exact h
    | no why => rw [hr] at h; exact h
  | rangeFunc f params assign body _ _ => intro f S ρ a w Q hf hw hK h; exact h.elim
  | exit id => intro f S ρ a w Q hf hw hK h; exact wp_exit (h a w ρ hf hw (Up.refl K S ρ w) (Fr.refl K S ρ w))
  | scope body _ => intro f S ρ a w Q hf hw hK h; exact h.elim
  | label l => intro f S ρ a w Q hf hw hK h; exact wp_label (h a w ρ hf hw (Up.refl K S ρ w) (Fr.refl K S ρ w))
  | goto l => intro f S ρ a w Q hf hw hK h; exact h.elim
  | ret => intro f S ρ a w Q hf hw hK h; exact wp_ret (h a w ρ hf hw (Up.refl K S ρ w) (Fr.refl K S ρ w))
  | refuse why => intro f S ρ a w Q hf hw hK h; exact h.elim

/-- One result. -/
def resRun (tmps : Array Value) : ResultVar → Sem Value
  | .tmp t => pure (tmps.getD t undef)
  | .cell a t => do loadVar t (← asAddr (tmps.getD a undef))
theorem results_eq (fn : Func) (tmps : Array Value) : results fn tmps = (do
    let vs ← fn.results.mapM (resRun tmps)
    pure (if h : vs.size = 1 then vs[0] else .tuple vs) : Sem Value) := by
  have : (fun x => match x with | .tmp t => pure (tmps.getD t undef) | .cell a t => do loadVar t (← asAddr (tmps.getD a undef)) : ResultVar → Sem Value) = resRun tmps := by
    funext r; cases r <;> rfl
  unfold results
  rw [← this]
  rfl

theorem results_ok {fn : Func} {f : Fm} {S : St} {v : AV} {ρ : Rho} {a : Act} {w : World} (h : aRes P fn f S = some v) (hf : FR ρ f a) (hw : WR ρ S w) : ∃ x, (results fn a.tmps).run P w = .ok x w ∧ VR ρ v x := by
  have one : ∀ (l : List ResultVar) (vs : List AV), mapO (resOf P f S) l = some vs → ∃ xs, VRL ρ vs xs ∧ (l.mapM (resRun a.tmps)).run P w = .ok xs w := by
    intro l
    induction l with
    | nil => intro vs h; have h : some [] = some vs := h; injection h with h; subst h; exact ⟨[], by simp [VRL], rfl⟩
    | cons r l ih =>
      intro vs h
      obtain ⟨y, ys, h1, h2, h3⟩ := mapO_cons h
      subst h3
      obtain ⟨xs, hxs, hrun⟩ := ih ys h2
      have hr : ∃ x, VR ρ y x ∧ (resRun a.tmps r).run P w = .ok x w := by
        cases r with
        | tmp t =>
          obtain ⟨x, hx, hv⟩ := hf.2.2 t y h1
          exact ⟨x, hv, by simp [resRun, Array.getD_eq_getD_getElem?, hx]⟩
        | cell a' t =>
          have h1 : (match f.t.at a' with | some p => aLoad P S t p | none => none) = some y := h1
          split at h1
          · rename_i p hp
            obtain ⟨x, hx, hv⟩ := hf.2.2 a' p hp
            obtain ⟨z, hz1, hz2⟩ := aLoad_ok h1 hw hv
            refine ⟨z, hz2, ?_⟩
            have e : a.tmps.getD a' undef = x := by simp [Array.getD_eq_getD_getElem?, hx]
            simp only [resRun, e]
            cases p
            case ptr id off =>
              simp only [VR] at hv
              obtain ⟨b, n, _, e2⟩ := hv; subst e2
              simpa [asAddr, Instr.loadAt, Instr.sureAddr] using hz1
            all_goals (unfold aLoad at h1; simp at h1)
          · cases h1
      obtain ⟨x, hx, hrx⟩ := hr
      refine ⟨x :: xs, by simp only [VRL]; exact ⟨x, xs, rfl, hx, hxs⟩, ?_⟩
      simp only [List.mapM_cons, Sem.run_bind, hrx, Result.andThen_ok, hrun, Sem.run_pure]
  unfold aRes at h
  have fin : ∀ vs xs, mapO (resOf P f S) fn.results.toList = some vs → VRL ρ vs xs → (fn.results.toList.mapM (resRun a.tmps)).run P w = .ok xs w →
      (results fn a.tmps).run P w = .ok (if h : xs.toArray.size = 1 then xs.toArray[0] else .tuple xs.toArray) w := by
    intro vs xs _ _ hr
    rw [results_eq]
    simp only [Array.mapM_eq_mapM_toList, Sem.run_bind]
    simp only [Functor.map, Sem.run_bind', hr]
    rfl
  split at h
  · rename_i u hu
    injection h with h; subst h
    obtain ⟨xs, h1, h2⟩ := one _ _ hu
    have := fin _ _ hu h1 h2
    simp only [VRL] at h1
    obtain ⟨x, r, e, hx, e2⟩ := h1
    subst e2; subst e
    exact ⟨x, by simpa using this, hx⟩
  · rename_i vs hne hu
    injection h with h; subst h
    obtain ⟨xs, h1, h2⟩ := one _ _ hu
    have := fin _ _ hu h1 h2
    have hl := h1.length
    have hn : ¬ xs.toArray.size = 1 := by
      intro h0
      have : vs.length = 1 := by rw [← hl]; simpa using h0
      match vs, this with
      | [z], _ => exact hne z rfl
    rw [dif_neg hn] at this
    exact ⟨_, this, by simp only [VR]; exact ⟨xs, rfl, h1⟩⟩
  · cases h

end Ex
end Go.Proofs.YtcgbdkjelbgcfaaGreatDoor
namespace Go.Proofs.YtcgbdkjelbgcfaaGreatDoor
namespace Ex

variable {P : Program}

theorem callB_ok {K : Nat} {run : Code → Fm → St → Res} (hrun : CodeOk K P run) : CallOk K P (callB P run) := by
  intro g vs S v S' h ρ xs w hxs hw hK
  unfold callB at h
  split at h
  · cases h
  · rename_i fn hfn
    split at h
    · rename_i c hname hbody
      split at h
      · rename_i hc
        simp only [Bool.and_eq_true] at hc
        have hlen : vs.length ≤ fn.ntmps := Nat.le_of_ble_eq_true hc.1
        have hn : fn.ntmps < 1048575 := by have := hc.2; rwa [Nat.blt_eq] at this
        have hxl := hxs.length
        have hcf : ∀ w₀, (callFunc g xs.toArray).run P w₀ = .ok (.enter g xs.toArray) w₀ := by
          intro w₀
          simp only [callFunc, Sem.run_bind, run_program, Result.andThen_ok, hfn, hname, hbody, Option.isNone_some, Bool.false_eq_true, if_false, Sem.run_pure]
        refine ⟨hcf, calls_of_wp hfn hbody ?_⟩
        have hfr : FR ρ ⟨wr vs .e 0, fn.ntmps⟩ { tmps := xs.toArray ++ Array.replicate (fn.ntmps - xs.toArray.size) undef, defers := [] } := by
          refine ⟨rfl, by simp; omega, fun i u hi => ?_⟩
          have hi : (wr vs .e 0).at i = some u := hi
          rw [wr_at _ _ _ _ (by omega)] at hi
          by_cases hin : 0 ≤ i ∧ i < 0 + vs.length
          · rw [if_pos hin] at hi
            obtain ⟨x, hx, hv⟩ := hxs.get _ u hi
            refine ⟨x, ?_, hv⟩
            rw [Array.getElem?_append_left (by simp; omega)]
            simpa using hx
          · rw [if_neg hin, Tr.at_e] at hi; cases hi
        refine hrun c _ S ρ _ w _ hfr hw hK ?_
        cases hr : run c ⟨wr vs .e 0, fn.ntmps⟩ S with
        | normal f1 S1 =>
          rw [hr] at h
          intro a' w' σ h1 h2 h3 h4
          simp only [fin] at h
          split at h
          · rename_i u hu
            injection h with e1 e2; subst e1; subst e2
            obtain ⟨x, hx1, hx2⟩ := results_ok hu h1 h2
            exact ⟨h1.1, x, hx1, x, σ, rfl, hx2, h2, h3, h4⟩
          · cases h
        | ret f1 S1 =>
          rw [hr] at h
          intro a' w' σ h1 h2 h3 h4
          simp only [fin] at h
          split at h
          · rename_i u hu
            injection h with e1 e2; subst e1; subst e2
            obtain ⟨x, hx1, hx2⟩ := results_ok hu h1 h2
            exact ⟨h1.1, x, hx1, x, σ, rfl, hx2, h2, h3, h4⟩
          · cases h
        | exit id f1 S1 => rw [hr] at h; cases h
        | no why => rw [hr] at h; cases h
      · cases h
    · cases h

/-- The executor, with a way to go through regions that draw their order. -/
noncomputable def exec (K : Nat) (P : Program) (ext : FuncId → List AV → Option AV) (dr : (FuncId → List AV → St → CRes) → Nat → Array Oper → Fm → St → Res) (n : Nat) : Code → Fm → St → Res :=
  Nat.rec (motive := fun _ => Code → Fm → St → Res) (fun _ _ _ => .no [40])
    (fun _ ih c f S => exec1 K P ext (callB P ih) (dr (callB P ih)) ih c f S) n

theorem exec_ok {K : Nat} {ext : FuncId → List AV → Option AV} {dr : (FuncId → List AV → St → CRes) → Nat → Array Oper → Fm → St → Res} (hext : ExtOk P ext) (hdr : ∀ call, CallOk K P call → DrawnOk K P (dr call)) :
    ∀ n, CodeOk K P (exec K P ext dr n) := by
  intro n
  induction n with
  | zero => intro c f S ρ a w Q _ _ _ h; exact h.elim
  | succ n ih => exact exec1_ok hext (callB_ok ih) (hdr _ (callB_ok ih)) ih

noncomputable def run (K : Nat) (P : Program) (ext : FuncId → List AV → Option AV) (dr : (FuncId → List AV → St → CRes) → Nat → Array Oper → Fm → St → Res) (n : Nat) (g : FuncId) (vs : List AV) (S : St) : CRes := callB P (exec K P ext dr n) g vs S

theorem run_ok {K : Nat} {ext : FuncId → List AV → Option AV} {dr : (FuncId → List AV → St → CRes) → Nat → Array Oper → Fm → St → Res} (hext : ExtOk P ext) (hdr : ∀ call, CallOk K P call → DrawnOk K P (dr call)) (n : Nat) :
    CallOk K P (run K P ext dr n) := callB_ok (exec_ok hext hdr n)

end Ex
end Go.Proofs.YtcgbdkjelbgcfaaGreatDoor
namespace Go.Proofs.YtcgbdkjelbgcfaaGreatDoor
namespace Ex

variable {P : Program}

/-- Which operations a listing has. -/
def Lst (listed : Array Bool) (i : Nat) : Prop := listed.getD i false = true

/-- How many are left. -/
def leftOf (n : Nat) (listed : Array Bool) : Nat := ((List.range n).filter fun i => !listed.getD i true).length

theorem leftOf_set {n i : Nat} {listed : Array Bool} (hn : listed.size = n) (hi : i < n) (h0 : listed.getD i true = false) : leftOf n (listed.setIfInBounds i true) + 1 ≤ leftOf n listed := by
  unfold leftOf
  have hsub : ∀ (l : List Nat), l.Nodup → i ∈ l → ((l.filter fun j => !(listed.setIfInBounds i true).getD j true).length + 1 ≤ (l.filter fun j => !listed.getD j true).length) := by
    intro l
    have hget : ∀ j, (listed.setIfInBounds i true).getD j true = if j = i then true else listed.getD j true := by
      intro j
      by_cases e : j = i
      · subst e; simp [Array.getD_eq_getD_getElem?, hn, hi]
      · simp [Array.getD_eq_getD_getElem?, Ne.symm e, e]
    induction l with
    | nil => intro _ h; simp at h
    | cons x l ih =>
      intro hnd hm
      rw [List.nodup_cons] at hnd
      by_cases hx : x = i
      · subst hx
        have hrest : (l.filter fun j => !(listed.setIfInBounds x true).getD j true) = l.filter fun j => !listed.getD j true := by
          apply List.filter_congr
          intro j hj
          rw [hget, if_neg (fun e : j = x => hnd.1 (e ▸ hj))]
        have e1 : (!(listed.setIfInBounds x true).getD x true) = false := by rw [hget, if_pos rfl]; rfl
        have e2 : (!listed.getD x true) = true := by rw [h0]; rfl
        rw [List.filter_cons, List.filter_cons, e1, e2, hrest]
        simp
      · have hm : i ∈ l := by rcases List.mem_cons.1 hm with h | h; exact absurd h.symm hx; exact h
        have := ih hnd.2 hm
        simp only [List.filter_cons, hget, if_neg hx]
        split <;> simp_all
  exact hsub _ List.nodup_range (List.mem_range.2 hi)

/-- An invariant over what is listed serves every order. -/
theorem wpAny_of_inv {ops : Array Oper} {Q : Exit → Act → World → Prop} (I : Array Bool → Act → World → Prop)
    (hend : ∀ listed a w, I listed a w → Region.ready .any ops listed = [] → Q .normal a w)
    (hstep : ∀ listed a w i, I listed a w → i ∈ Region.ready .any ops listed → wpOp P ops Q i (I (listed.setIfInBounds i true)) a w)
    (hsize : ∀ listed a w, I listed a w → listed.size = ops.size) :
    ∀ fuel listed a w, leftOf ops.size listed ≤ fuel → I listed a w → wpAny P .any ops Q fuel listed a w := by
  intro fuel
  induction fuel with
  | zero =>
    intro listed a w hl hI
    have hr : Region.ready .any ops listed = [] := by
      unfold Region.ready
      rw [List.filter_eq_nil_iff]
      intro i hi h
      have h0 : leftOf ops.size listed = 0 := Nat.le_zero.1 hl
      unfold leftOf at h0
      rw [List.length_eq_zero_iff, List.filter_eq_nil_iff] at h0
      simp only [Bool.and_eq_true] at h
      exact h0 i hi h.1
    exact ⟨hr, hend _ _ _ hI hr⟩
  | succ fuel ih =>
    intro listed a w hl hI
    refine ⟨hend _ _ _ hI, fun i hi => ?_⟩
    have hs := hsize _ _ _ hI
    have hi' := mem_ready.1 hi
    refine wpOp_mono (fun a' w' h => ih _ a' w' ?_ h) (hstep listed a w i hI hi)
    have h1 : i < ops.size := by
      unfold Region.ready at hi
      exact List.mem_range.1 (List.mem_filter.1 hi).1
    have h2 : listed.getD i true = false := by
      unfold Region.ready at hi
      have := (List.mem_filter.1 hi).2
      simp only [Bool.and_eq_true, Bool.not_eq_true'] at this
      exact this.1
    have := leftOf_set hs h1 h2
    omega

/-! Memory of which less is known, or which is told otherwise. -/
theorem WR.sub {ρ : Rho} {S T : St} {w : World} (h : WR ρ S w) (hs : ∀ i A, T.heap.at i = some A → S.heap.at i = some A) (hn : T.next = S.next) : WR ρ T w := by
  refine ⟨fun i j b m n A B hA hB => h.inj i j b m n A B (hs i A hA) (hs j B hB), fun i hi => ?_, by rw [hn]; exact h.lim, h.low, fun i B hB => h.blk i B (hs i B hB)⟩
  rw [hn] at hi
  refine ⟨(h.dom i hi).1, ?_⟩
  cases ht : T.heap.at i with
  | none => rfl
  | some A => have := hs i A ht; rw [(h.dom i hi).2] at this; cases this

/-- A block that lies there is told. -/
theorem WR.tell {ρ : Rho} {S T : St} {w : World} (h : WR ρ S w) {id b n : Nat} {B : AB} (hid : id < S.next) (hr : ρ id = some (b, n)) (hB : BR ρ n B w.heap[b]?)
    (hfree : ∀ j m A, j ≠ id → S.heap.at j = some A → A.live = true → ρ j ≠ some (b, m)) (hT : ∀ i, T.heap.at i = if i = id then some B else S.heap.at i) (hn : T.next = S.next) : WR ρ T w := by
  have hat : ∀ i A, T.heap.at i = some A → (i = id ∧ A = B) ∨ (i ≠ id ∧ S.heap.at i = some A) := by
    intro i A hi
    rw [hT] at hi
    by_cases e : i = id
    · rw [if_pos e] at hi; injection hi with hi; exact .inl ⟨e, hi.symm⟩
    · rw [if_neg e] at hi; exact .inr ⟨e, hi⟩
  refine ⟨fun i j c m k A C hi hj hA hC hri hrj => ?_, fun i hi => ?_, by rw [hn]; exact h.lim, h.low, fun i A hi => ?_⟩
  · rcases hat i A hi with ⟨e1, p1⟩ | ⟨e1, p1⟩ <;> rcases hat j C hj with ⟨e2, p2⟩ | ⟨e2, p2⟩
    · rw [e1, e2]
    · subst e1; rw [hr] at hri; injection hri with hri; injection hri with q1 q2; subst q1
      exact absurd hrj (hfree j k C e2 p2 hC)
    · subst e2; rw [hr] at hrj; injection hrj with hrj; injection hrj with q1 q2; subst q1
      exact absurd hri (hfree i m A e1 p1 hA)
    · exact h.inj i j c m k A C p1 p2 hA hC hri hrj
  · rw [hn] at hi
    refine ⟨(h.dom i hi).1, ?_⟩
    rw [hT, if_neg (by omega)]; exact (h.dom i hi).2
  · rcases hat i A hi with ⟨e, e2⟩ | ⟨_, e2⟩
    · subst e; subst e2; exact ⟨b, n, hr, hB⟩
    · exact h.blk i A e2

/-! Ancestors. -/
def preds (o : Oper) : List Nat := (o.after.toList.filter fun e => Region.binds .any e).map (·.on)

inductive Anc (ops : Array Oper) : Nat → Nat → Prop
  | one {i j : Nat} {o : Oper} : ops[i]? = some o → j ∈ preds o → Anc ops i j
  | more {i j k : Nat} {o : Oper} : ops[i]? = some o → j ∈ preds o → Anc ops j k → Anc ops i k

noncomputable def isAnc (ops : List Oper) (n : Nat) : Nat → Nat → Bool :=
  Nat.rec (motive := fun _ => Nat → Nat → Bool) (fun _ _ => false)
    (fun _ ih i k => match ops[i]? with
      | none => false
      | some o => (preds o).any fun j => Nat.beq j k || ih j k) n
theorem isAnc_ok {ops : Array Oper} : ∀ {n i k : Nat}, isAnc ops.toList n i k = true → Anc ops i k
  | 0, _, _, h => by cases h
  | n + 1, i, k, h => by
    have h : (match ops.toList[i]? with
      | none => false
      | some o => (preds o).any fun j => Nat.beq j k || isAnc ops.toList n j k) = true := h
    split at h
    · cases h
    · rename_i o ho
      have ho : ops[i]? = some o := by simpa using ho
      rw [List.any_eq_true] at h
      obtain ⟨j, hj, h⟩ := h
      rw [Bool.or_eq_true] at h
      rcases h with h | h
      · have := Nat.eq_of_beq_eq_true h; subst this; exact .one ho hj
      · exact .more ho hj (isAnc_ok h)

/-- What is listed is listed with all before it. -/
def Down (ops : Array Oper) (listed : Array Bool) : Prop := ∀ i o j, ops[i]? = some o → Lst listed i → j ∈ preds o → Lst listed j

theorem Anc.lst {ops : Array Oper} {listed : Array Bool} (hd : Down ops listed) {i k : Nat} (h : Anc ops i k) : Lst listed i → Lst listed k := by
  induction h with
  | one ho hj => exact fun hl => hd _ _ _ ho hl hj
  | more ho hj _ ih => exact fun hl => ih (hd _ _ _ ho hl hj)

theorem ready_preds {ops : Array Oper} {listed : Array Bool} {i : Nat} {o : Oper} (h : i ∈ Region.ready .any ops listed) (ho : ops[i]? = some o) : ∀ j ∈ preds o, Lst listed j := by
  intro j hj
  unfold Region.ready at h
  have h := (List.mem_filter.1 h).2
  simp only [ho, Option.map_some, Option.getD_some, Bool.and_eq_true] at h
  have h := h.2
  rw [Array.all_eq_true_iff_forall_mem] at h
  unfold preds at hj
  simp only [List.mem_map, List.mem_filter] at hj
  obtain ⟨e, ⟨he, hb⟩, rfl⟩ := hj
  have := h e (by simpa using he)
  rw [hb] at this
  simpa [Lst] using this

theorem ready_anc {ops : Array Oper} {listed : Array Bool} (hd : Down ops listed) {i k : Nat} (h : i ∈ Region.ready .any ops listed) (ha : Anc ops i k) : Lst listed k := by
  cases ha with
  | one ho hj => exact ready_preds h ho _ hj
  | more ho hj ha => exact ha.lst hd (ready_preds h ho _ hj)

end Ex
end Go.Proofs.YtcgbdkjelbgcfaaGreatDoor
