/- A closed-run executor: its parts Fg to Fk, joined: proved sound against the model. No program is named; the one condition of the whole: the program follows the mixed orders. -/
import Derived.Test.YtjdmkgnlakonbaaGreatDoorFf
namespace Go.Proofs.YtjdmkgnlakonbaaGreatDoor
namespace Ex

variable {P : Program}

/-- The world holds what a heap tells, the heap as a function. -/
structure WRf (ρ : Rho) (H : Nat → Option AB) (nx : Nat) (w : World) : Prop where
  inj : ∀ i j b m n A B, H i = some A → H j = some B → A.live = true → B.live = true → ρ i = some (b, m) → ρ j = some (b, n) → i = j
  dom : ∀ i, nx ≤ i → ρ i = none ∧ H i = none
  lim : nx < 1048575
  low : ∀ i b n, ρ i = some (b, n) → b < w.heap.size
  blk : ∀ i B, H i = some B → ∃ b n, ρ i = some (b, n) ∧ BR ρ n B w.heap[b]?

theorem WR.f {ρ : Rho} {S : St} {w : World} (h : WR ρ S w) : WRf ρ S.heap.at S.next w := ⟨h.inj, h.dom, h.lim, h.low, h.blk⟩
theorem WRf.tr {ρ : Rho} {H : Nat → Option AB} {nx : Nat} {w : World} (h : WRf ρ H nx w) {T : St} (hs : ∀ i A, T.heap.at i = some A → H i = some A) (hn : T.next = nx) : WR ρ T w := by
  refine ⟨fun i j b m n A B hA hB => h.inj i j b m n A B (hs i A hA) (hs j B hB), fun i hi => ?_, by rw [hn]; exact h.lim, h.low, fun i B hB => h.blk i B (hs i B hB)⟩
  rw [hn] at hi
  refine ⟨(h.dom i hi).1, ?_⟩
  cases ht : T.heap.at i with
  | none => rfl
  | some A => have := hs i A ht; rw [(h.dom i hi).2] at this; cases this

/-- What an operation did in the trace. -/
inductive Rec where
  | skip
  | val (v : AV)
  | read (v : AV)
  | mk (id : Nat) (B : AB) (v : AV)
  | eff (v : AV) (Ma M1 : St)
def Rec.out : Rec → AV
  | .skip => .tup []
  | .val v | .read v | .mk _ _ v | .eff v _ _ => v
def Rec.isEff : Rec → Bool
  | .eff .. => true
  | _ => false
def Rec.isMk : Rec → Bool
  | .mk .. => true
  | _ => false

/-- A trace: the operations, the frame and the memory before them, what each did. -/
structure Tc where
  ops : Array Oper
  f0 : Fm
  S : St
  recs : List Rec

namespace Tc
variable (T : Tc)

def M0 : St := ⟨T.S.heap, T.S.next + T.ops.size⟩
/-- e is an effect, of the memories Ma and M1. -/
def Ef (e : Nat) (Ma M1 : St) : Prop := ∃ v, T.recs[e]? = some (.eff v Ma M1)
def IsE (e : Nat) : Prop := ∃ Ma M1, T.Ef e Ma M1
/-- A new block has been told to memory: an effect that comes behind it is listed. -/
def Abs (L : Array Bool) (i : Nat) : Prop := ∃ e, T.IsE e ∧ Lst L e ∧ Anc T.ops e i
/-- The memory behind the last effect that is listed. -/
def Cur (L : Array Bool) (M : St) : Prop :=
  ((∀ e, T.IsE e → ¬ Lst L e) ∧ M = T.M0) ∨ (∃ e Ma, T.Ef e Ma M ∧ Lst L e ∧ ∀ e', T.IsE e' → Lst L e' → e' = e ∨ Anc T.ops e e')
/-- The memory behind the last effect before e. -/
def Prev (e : Nat) (M : St) : Prop :=
  ((∀ e', T.IsE e' → ¬ Anc T.ops e e') ∧ M = T.M0) ∨ (∃ e' Ma, T.Ef e' Ma M ∧ Anc T.ops e e' ∧ ∀ e'', T.IsE e'' → Anc T.ops e e'' → e'' = e' ∨ Anc T.ops e' e'')

/-- The block that floats under a number. -/
def Fl (L : Array Bool) (id : Nat) (B : AB) : Prop := ∃ (i : Nat) (v : AV), T.recs[i]? = some (.mk id B v) ∧ Lst L i ∧ ¬ T.Abs L i
/-- The heap as it stands. -/
def Hp (L : Array Bool) (M : St) (H : Nat → Option AB) : Prop := (∀ id B, T.Fl L id B → H id = some B) ∧ (∀ id, (∀ B, ¬ T.Fl L id B) → H id = M.heap.at id)

/-- A frame that an operation with these predecessors may be looked at with. -/
def Sees (i : Nat) (o : Oper) (g : Fm) : Prop := g.n = T.f0.n ∧ ∀ t v, g.t.at t = some v →
  (∃ (j : Nat) (oj : Oper) (r : Rec), T.ops[j]? = some oj ∧ oj.dst = some t ∧ T.recs[j]? = some r ∧ v = r.out ∧ j ∈ preds o) ∨ ((∀ (j : Nat) (oj : Oper), T.ops[j]? = some oj → oj.dst = some t → Anc T.ops j i) ∧ T.f0.t.at t = some v)

/-- What a good trace fulfils. -/
structure Good (K : Nat) (P : Program) (ext : FuncId → List AV → Option AV) (call : FuncId → List AV → St → CRes) (fN : Fm) (SN : St) : Prop where
  len : T.recs.length = T.ops.size
  lim : T.S.next + T.ops.size < 1048575
  dsts : ∀ (i j : Nat) (oi oj : Oper) (d : Nat), T.ops[i]? = some oi → T.ops[j]? = some oj → oi.dst = some d → oj.dst = some d → i = j
  fits : T.f0.n < 1048575 ∧ ∀ (i : Nat) (o : Oper) (d : Nat), T.ops[i]? = some o → o.dst = some d → d < T.f0.n
  chain : ∀ e e', T.IsE e → T.IsE e' → e = e' ∨ Anc T.ops e e' ∨ Anc T.ops e' e
  irr : ∀ e, T.IsE e → ¬ Anc T.ops e e
  back : ∀ (i : Nat) (o : Oper) (j : Nat), T.ops[i]? = some o → j ∈ preds o → j < i
  ids : ∀ (i id : Nat) (B : AB) (v : AV), T.recs[i]? = some (.mk id B v) → id = T.S.next + i
  op : ∀ (i : Nat) (o : Oper) (r : Rec), T.ops[i]? = some o → T.recs[i]? = some r → ∃ g, T.Sees i o g ∧ match r with
    | .skip => want T.ops.toList g o = some false
    | .val v => want T.ops.toList g o = some true ∧ (pureOp P g o = some v ∨ ∃ (c : Call) (h : FuncId) (vs : List AV), o.op = .call c ∧ callee g c = some (h, vs) ∧ ext h vs = some v)
    | .read v => want T.ops.toList g o = some true ∧ ∀ L M, Down T.ops L → ¬ Lst L i → (∀ j ∈ preds o, Lst L j) → T.Cur L M → readOp P g M o = some v
    | .mk id B v => want T.ops.toList g o = some true ∧ allocOp P id g o = some (v, B)
    | .eff v Ma M1 => want T.ops.toList g o = some true ∧ (effOp K P g Ma o = some (v, M1) ∨ ∃ (c : Call) (h : FuncId) (vs : List AV), o.op = .call c ∧ callee g c = some (h, vs) ∧ call h vs Ma = .ok v M1)
  absorb : ∀ e Ma M1, T.Ef e Ma M1 → ∃ M, T.Prev e M ∧ Ma.next = M.next ∧ ∀ id A, Ma.heap.at id = some A →
    M.heap.at id = some A ∨ (∃ (i : Nat) (v : AV), T.recs[i]? = some (.mk id A v) ∧ Anc T.ops e i ∧ ∀ e', T.IsE e' → Anc T.ops e e' → ¬ Anc T.ops e' i)
  /-- The end. -/
  last : ∀ L M, (∀ i, i < T.ops.size → Lst L i) → T.Cur L M → SN.next = M.next ∧ ∀ H, T.Hp L M H → ∀ id A, SN.heap.at id = some A → H id = some A
  frame : fN.n = T.f0.n ∧ ∀ t v, fN.t.at t = some v → (∃ (j : Nat) (oj : Oper) (r : Rec), T.ops[j]? = some oj ∧ oj.dst = some t ∧ T.recs[j]? = some r ∧ v = r.out) ∨ ((∀ (j : Nat) (oj : Oper), T.ops[j]? = some oj → oj.dst ≠ some t) ∧ T.f0.t.at t = some v)

/-- The invariant: what is listed has been done. -/
structure Inv (K : Nat) (ρ0 : Rho) (w0 : World) (L : Array Bool) (a : Act) (w : World) (ρ : Rho) (M : St) (H : Nat → Option AB) : Prop where
  size : L.size = T.ops.size
  down : Down T.ops L
  slots : a.tmps.size = T.f0.n
  outs : ∀ (j : Nat) (o : Oper) (d : Nat) (r : Rec), T.ops[j]? = some o → o.dst = some d → T.recs[j]? = some r → Lst L j → ∃ x, a.tmps[d]? = some x ∧ VR ρ r.out x
  olds : ∀ t v, (∀ (j : Nat) (o : Oper), T.ops[j]? = some o → o.dst = some t → ¬ Lst L j) → T.f0.t.at t = some v → ∃ x, a.tmps[t]? = some x ∧ VR ρ v x
  cur : T.Cur L M
  hp : T.Hp L M H
  wr : WRf ρ H M.next w
  nx : T.S.next + T.ops.size ≤ M.next
  free1 : ∀ (i id : Nat) (B : AB) (v : AV), T.recs[i]? = some (.mk id B v) → ¬ Lst L i → ρ id = none
  free2 : ∀ (i id : Nat) (B : AB) (v : AV), T.recs[i]? = some (.mk id B v) → ¬ T.Abs L i → M.heap.at id = none
  le : ρ0.le ρ
  old : ∀ i, i < T.S.next → ρ i = ρ0 i
  keep : ∀ i, i < T.S.next → T.S.heap.at i = none → M.heap.at i = none
  new : ∀ i b n A, H i = some A → A.live = true → ρ i = some (b, n) →
    (ρ0 i = some (b, n) ∧ ∃ A', T.S.heap.at i = some A' ∧ A'.live = true) ∨ (K ≤ i ∧ (w0.heap.size ≤ b ∨ ∃ j m A', K ≤ j ∧ T.S.heap.at j = some A' ∧ A'.live = true ∧ ρ0 j = some (b, m)))
  fr : Fr K T.S ρ0 w0 w

variable {T}

theorem Inv.sees {K : Nat} {ρ0 ρ : Rho} {w0 w : World} {L : Array Bool} {a : Act} {M : St} {H : Nat → Option AB} (I : T.Inv K ρ0 w0 L a w ρ M H) {i : Nat} {o : Oper} {g : Fm} (hs : T.Sees i o g) (hnl : ¬ Lst L i) (hp : ∀ j ∈ preds o, Lst L j) : FR ρ g a := by
  refine ⟨rfl, by rw [hs.1]; exact I.slots, fun t v ht => ?_⟩
  rcases hs.2 t v ht with ⟨j, oj, r, h1, h2, h3, h4, h5⟩ | ⟨h1, h2⟩
  · subst h4; exact I.outs j oj t r h1 h2 h3 (hp j h5)
  · exact I.olds t v (fun j oj hj hd hl => hnl ((h1 j oj hj hd).lst I.down hl)) h2

theorem Inv.grow {K : Nat} {ρ0 ρ : Rho} {w0 w w' : World} {L : Array Bool} {a : Act} {M : St} {H : Nat → Option AB} (I : T.Inv K ρ0 w0 L a w ρ M H) (hb : RowKit.Below w.heap.size w w') : T.Inv K ρ0 w0 L a w' ρ M H :=
  { I with
    wr := ⟨I.wr.inj, I.wr.dom, I.wr.lim, fun i b n h => Nat.lt_of_lt_of_le (I.wr.low i b n h) hb.size, fun i B h => by
      obtain ⟨b, n, h1, h2⟩ := I.wr.blk i B h
      exact ⟨b, n, h1, by rw [hb.block b (I.wr.low i b n h1)]; exact h2⟩⟩
    fr := ⟨hb.os.trans I.fr.os, hb.tape.trans I.fr.tape, hb.output.trans I.fr.output, Nat.le_trans I.fr.size hb.size, fun b hlt hn => (hb.block b (Nat.lt_of_lt_of_le hlt I.fr.size)).trans (I.fr.block b hlt hn)⟩ }

theorem lst_set {L : Array Bool} {i j : Nat} (hi : i < L.size) : Lst (L.setIfInBounds i true) j ↔ j = i ∨ Lst L j := by
  unfold Lst
  by_cases e : j = i
  · subst e; simp [Array.getD_eq_getD_getElem?, hi]
  · simp [Array.getD_eq_getD_getElem?, Ne.symm e, e]

theorem down_set {ops : Array Oper} {L : Array Bool} {i : Nat} {o : Oper} (hi : i < L.size) (ho : ops[i]? = some o) (hd : Down ops L) (hp : ∀ j ∈ preds o, Lst L j) : Down ops (L.setIfInBounds i true) := by
  intro k q j hk hl hj
  rw [lst_set hi] at hl ⊢
  rcases hl with e | hl
  · subst e; rw [ho] at hk; injection hk with hk; subst hk; exact .inr (hp j hj)
  · exact .inr (hd k q j hk hl hj)

end Tc
end Ex
end Go.Proofs.YtjdmkgnlakonbaaGreatDoor
namespace Go.Proofs.YtjdmkgnlakonbaaGreatDoor
namespace Ex
namespace Tc

variable {P : Program} {T : Tc} {K : Nat} {ext : FuncId → List AV → Option AV} {call : FuncId → List AV → St → CRes} {fN : Fm} {SN : St} {ρ0 ρ : Rho} {w0 w : World} {L : Array Bool} {a : Act} {M : St} {H : Nat → Option AB}

theorem ancTrans {ops : Array Oper} {i j k : Nat} (h : Anc ops i j) (h' : Anc ops j k) : Anc ops i k := by
  induction h with
  | one ho hj => exact .more ho hj h'
  | more ho hj _ ih => exact .more ho hj (ih h')

theorem put_at (a : Act) (d : Option Nat) (x : Value) (t : Nat) : (a.put d x).tmps[t]? = if d = some t ∧ t < a.tmps.size then some x else a.tmps[t]? := by
  cases d with
  | none => simp [Act.put]
  | some d =>
    simp only [Act.put]
    by_cases e : d = t
    · subst e
      by_cases hl : d < a.tmps.size
      · simp [hl]
      · simp [hl]
    · simp [e]

/-- The slots, behind one operation more. -/
theorem outs_put (G : T.Good K P ext call fN SN) (I : T.Inv K ρ0 w0 L a w ρ M H) {σ : Rho} (hle : ρ.le σ) {i : Nat} {o : Oper} {r : Rec} {x : Value} (hi : i < L.size) (ho : T.ops[i]? = some o) (hr : T.recs[i]? = some r) (hx : VR σ r.out x) :
    (∀ (j : Nat) (q : Oper) (d : Nat) (s : Rec), T.ops[j]? = some q → q.dst = some d → T.recs[j]? = some s → Lst (L.setIfInBounds i true) j → ∃ x', (a.put o.dst x).tmps[d]? = some x' ∧ VR σ s.out x') ∧
    (∀ t v, (∀ (j : Nat) (q : Oper), T.ops[j]? = some q → q.dst = some t → ¬ Lst (L.setIfInBounds i true) j) → T.f0.t.at t = some v → ∃ x', (a.put o.dst x).tmps[t]? = some x' ∧ VR σ v x') := by
  constructor
  · intro j q d s hq hd hs hl
    rw [lst_set hi] at hl
    by_cases e : j = i
    · subst e
      rw [ho] at hq; injection hq with hq; subst hq
      rw [hr] at hs; injection hs with hs; subst hs
      refine ⟨x, ?_, hx⟩
      rw [put_at, if_pos ⟨hd, by rw [I.slots]; exact G.fits.2 _ _ _ ho hd⟩]
    · obtain ⟨x', h1, h2⟩ := I.outs j q d s hq hd hs (hl.resolve_left e)
      refine ⟨x', ?_, VR.mono hle _ _ h2⟩
      rw [put_at, if_neg fun h => e (G.dsts j i q o d hq ho hd h.1)]; exact h1
  · intro t v ht hv
    obtain ⟨x', h1, h2⟩ := I.olds t v (fun j q hj hd hl => ht j q hj hd ((lst_set hi).2 (.inr hl))) hv
    refine ⟨x', ?_, VR.mono hle _ _ h2⟩
    rw [put_at, if_neg fun h => ht i o ho h.1 ((lst_set hi).2 (.inl rfl))]; exact h1

theorem abs_set {i : Nat} {r : Rec} (hi : i < L.size) (hr : T.recs[i]? = some r) (he : r.isEff = false) (j : Nat) : T.Abs (L.setIfInBounds i true) j ↔ T.Abs L j := by
  constructor
  · rintro ⟨e, ⟨Ma, M1, v, hE⟩, hl, ha⟩
    rw [lst_set hi] at hl
    rcases hl with e1 | hl
    · subst e1; rw [hr] at hE; injection hE with hE; subst hE; cases he
    · exact ⟨e, ⟨Ma, M1, v, hE⟩, hl, ha⟩
  · rintro ⟨e, hE, hl, ha⟩
    exact ⟨e, hE, (lst_set hi).2 (.inr hl), ha⟩

theorem cur_set {i : Nat} {r : Rec} (hi : i < L.size) (hr : T.recs[i]? = some r) (he : r.isEff = false) (h : T.Cur L M) : T.Cur (L.setIfInBounds i true) M := by
  have key : ∀ e, T.IsE e → Lst (L.setIfInBounds i true) e → Lst L e := by
    rintro e ⟨Ma, M1, v, hE⟩ hl
    rw [lst_set hi] at hl
    rcases hl with e1 | hl
    · subst e1; rw [hr] at hE; injection hE with hE; subst hE; cases he
    · exact hl
  rcases h with ⟨h1, h2⟩ | ⟨e, Ma, h1, h2, h3⟩
  · exact .inl ⟨fun e hE hl => h1 e hE (key e hE hl), h2⟩
  · exact .inr ⟨e, Ma, h1, (lst_set hi).2 (.inr h2), fun e' hE hl => h3 e' hE (key e' hE hl)⟩

/-- An operation that leaves memory as it is. -/
theorem Inv.quiet (G : T.Good K P ext call fN SN) (I : T.Inv K ρ0 w0 L a w ρ M H) {i : Nat} {o : Oper} {r : Rec} {x : Value} (hi : i < L.size) (ho : T.ops[i]? = some o) (hr : T.recs[i]? = some r) (he : r.isEff = false) (hm : r.isMk = false)
    (hp : ∀ j ∈ preds o, Lst L j) (hx : VR ρ r.out x) : T.Inv K ρ0 w0 (L.setIfInBounds i true) (a.put o.dst x) w ρ M H := by
  obtain ⟨h1, h2⟩ := outs_put G I (Rho.le_refl ρ) hi ho hr hx
  have hfl : ∀ id B, T.Fl (L.setIfInBounds i true) id B ↔ T.Fl L id B := by
    intro id B
    constructor
    · rintro ⟨k, v, hk, hl, hna⟩
      rw [lst_set hi] at hl
      rcases hl with e | hl
      · subst e; rw [hr] at hk; injection hk with hk; subst hk; cases hm
      · exact ⟨k, v, hk, hl, fun h => hna ((abs_set hi hr he k).2 h)⟩
    · rintro ⟨k, v, hk, hl, hna⟩
      exact ⟨k, v, hk, (lst_set hi).2 (.inr hl), fun h => hna ((abs_set hi hr he k).1 h)⟩
  exact {
    size := by simp [I.size]
    down := down_set hi ho I.down hp
    slots := by cases hd : o.dst <;> simp [Act.put, I.slots]
    outs := h1
    olds := h2
    cur := cur_set hi hr he I.cur
    hp := ⟨fun id B h => I.hp.1 id B ((hfl id B).1 h), fun id h => I.hp.2 id fun B hB => h B ((hfl id B).2 hB)⟩
    wr := I.wr
    nx := I.nx
    free1 := fun k id B v hk hl => I.free1 k id B v hk fun h => hl ((lst_set hi).2 (.inr h))
    free2 := fun k id B v hk hna => I.free2 k id B v hk fun h => hna ((abs_set hi hr he k).2 h)
    le := I.le
    old := I.old
    keep := I.keep
    new := I.new
    fr := I.fr }

/-- An operation that makes a block. -/
theorem Inv.make (G : T.Good K P ext call fN SN) (hK : K ≤ T.S.next) (I : T.Inv K ρ0 w0 L a w ρ M H) {i id n : Nat} {o : Oper} {B : AB} {v : AV} {x : Value} {ob : Obj} {w' : World} (hi : i < L.size) (ho : T.ops[i]? = some o)
    (hr : T.recs[i]? = some (.mk id B v)) (hnl : ¬ Lst L i) (hp : ∀ j ∈ preds o, Lst L j) (hheap : w'.heap = w.heap.push ob) (hos : w'.os = w.os) (hta : w'.tape = w.tape) (hou : w'.output = w.output)
    (hx : VR (ρ.set id (w.heap.size, n)) v x) (hB : BR (ρ.set id (w.heap.size, n)) n B (some ob)) :
    ∃ H', T.Inv K ρ0 w0 (L.setIfInBounds i true) (a.put o.dst x) w' (ρ.set id (w.heap.size, n)) M H' := by
  have hid := G.ids i id B v hr
  have hnone : ρ id = none := I.free1 i id B v hr hnl
  have hle := Rho.le_set (p := (w.heap.size, n)) hnone
  obtain ⟨h1, h2⟩ := outs_put G I hle hi ho hr hx
  have hna : ¬ T.Abs L i := by rintro ⟨e, _, hl, ha⟩; exact hnl (ha.lst I.down hl)
  have hins : i < T.ops.size := by rw [← I.size]; exact hi
  have hsame : ∀ {k : Nat} {B' : AB} {v' : AV}, T.recs[k]? = some (.mk id B' v') → k = i := by
    intro k B' v' hk
    have := G.ids k id B' v' hk
    omega
  have hHid : H id = none := by
    rw [I.hp.2 id ?_]
    · exact I.free2 i id B v hr hna
    · rintro B' ⟨k, v', hk, hl, _⟩
      have := hsame hk; subst this; exact hnl hl
  refine ⟨fun j => if j = id then some B else H j, ?_⟩
  have hfl : ∀ j B', T.Fl (L.setIfInBounds i true) j B' ↔ (j = id ∧ B' = B) ∨ T.Fl L j B' := by
    intro j B'
    constructor
    · rintro ⟨k, v', hk, hl, hn⟩
      rw [lst_set hi] at hl
      rcases hl with e | hl
      · subst e; rw [hr] at hk; injection hk with hk; injection hk with e1 e2 e3; exact .inl ⟨e1.symm, e2.symm⟩
      · exact .inr ⟨k, v', hk, hl, fun h => hn ((abs_set hi hr rfl k).2 h)⟩
    · rintro (⟨e1, e2⟩ | ⟨k, v', hk, hl, hn⟩)
      · subst e1; subst e2; exact ⟨i, v, hr, (lst_set hi).2 (.inl rfl), fun h => hna ((abs_set hi hr rfl i).1 h)⟩
      · exact ⟨k, v', hk, (lst_set hi).2 (.inr hl), fun h => hn ((abs_set hi hr rfl k).1 h)⟩
  have hget : ∀ j p, (ρ.set id (w.heap.size, n)) j = some p → (j = id ∧ p = (w.heap.size, n)) ∨ (j ≠ id ∧ ρ j = some p) := by
    intro j p hj
    unfold Rho.set at hj
    by_cases e : j = id
    · rw [if_pos e] at hj; injection hj with hj; exact .inl ⟨e, hj.symm⟩
    · rw [if_neg e] at hj; exact .inr ⟨e, hj⟩
  have hat : ∀ j A, (if j = id then some B else H j) = some A → (j = id ∧ A = B) ∨ (j ≠ id ∧ H j = some A) := by
    intro j A hj
    by_cases e : j = id
    · rw [if_pos e] at hj; injection hj with hj; exact .inl ⟨e, hj.symm⟩
    · rw [if_neg e] at hj; exact .inr ⟨e, hj⟩
  have hidlt : id < M.next := by have := I.nx; omega
  exact {
    size := by simp [I.size]
    down := down_set hi ho I.down hp
    slots := by cases hd : o.dst <;> simp [Act.put, I.slots]
    outs := h1
    olds := h2
    cur := cur_set hi hr rfl I.cur
    hp := by
      constructor
      · intro j B' h
        rcases (hfl j B').1 h with ⟨e1, e2⟩ | h
        · subst e1; subst e2; exact if_pos rfl
        · by_cases e : j = id
          · subst e
            obtain ⟨k, v', hk, hl, _⟩ := h
            have := hsame hk; subst this; exact absurd hl hnl
          · show (if j = id then some B else H j) = some B'
            rw [if_neg e]; exact I.hp.1 j B' h
      · intro j h
        have e : j ≠ id := fun e => h B ((hfl j B).2 (.inl ⟨e, rfl⟩))
        show (if j = id then some B else H j) = _
        rw [if_neg e]
        exact I.hp.2 j fun B' hB' => h B' ((hfl j B').2 (.inr hB'))
    wr := by
      refine ⟨fun j k b m q A C hj hk hA hC hrj hrk => ?_, fun j hj => ?_, I.wr.lim, fun j b m hj => ?_, fun j A hj => ?_⟩
      · rcases hget j _ hrj with ⟨e1, p1⟩ | ⟨e1, p1⟩ <;> rcases hget k _ hrk with ⟨e2, p2⟩ | ⟨e2, p2⟩
        · rw [e1, e2]
        · injection p1 with p1; subst p1; exact absurd (I.wr.low k _ _ p2) (Nat.lt_irrefl _)
        · injection p2 with p2; subst p2; exact absurd (I.wr.low j _ _ p1) (Nat.lt_irrefl _)
        · rcases hat j A hj with ⟨e, _⟩ | ⟨_, e3⟩
          · exact absurd e e1
          · rcases hat k C hk with ⟨e, _⟩ | ⟨_, e4⟩
            · exact absurd e e2
            · exact I.wr.inj j k b m q A C e3 e4 hA hC p1 p2
      · have e : j ≠ id := by omega
        refine ⟨?_, ?_⟩
        · unfold Rho.set; rw [if_neg e]; exact (I.wr.dom j hj).1
        · show (if j = id then some B else H j) = none
          rw [if_neg e]; exact (I.wr.dom j hj).2
      · rw [hheap, Array.size_push]
        rcases hget j _ hj with ⟨_, e⟩ | ⟨_, e⟩
        · injection e with e; subst e; omega
        · exact Nat.lt_succ_of_lt (I.wr.low j b m e)
      · rcases hat j A hj with ⟨e, e2⟩ | ⟨e, e2⟩
        · subst e; subst e2; exact ⟨w.heap.size, n, Rho.set_same _ _ _, by rw [hheap]; simpa using hB⟩
        · obtain ⟨b2, n2, q1, q2⟩ := I.wr.blk j A e2
          refine ⟨b2, n2, hle _ _ q1, ?_⟩
          have hlt := I.wr.low j _ _ q1
          rw [hheap, Array.getElem?_push, if_neg (by omega)]
          exact q2.mono hle
    nx := I.nx
    free1 := by
      intro k id' B' v' hk hl
      have hk2 : ¬ Lst L k := fun h => hl ((lst_set hi).2 (.inr h))
      have e : id' ≠ id := by
        intro e; subst e
        have := hsame hk; subst this; exact hl ((lst_set hi).2 (.inl rfl))
      unfold Rho.set; rw [if_neg e]; exact I.free1 k id' B' v' hk hk2
    free2 := fun k id' B' v' hk hn => I.free2 k id' B' v' hk fun h => hn ((abs_set hi hr rfl k).2 h)
    le := Rho.le_trans I.le hle
    old := fun j hj => by unfold Rho.set; rw [if_neg (by omega)]; exact I.old j hj
    keep := I.keep
    new := by
      intro j b m A hj hA hrj
      rcases hget j _ hrj with ⟨e, p⟩ | ⟨e, p⟩
      · injection p with p1 p2; subst p1; exact .inr ⟨by omega, .inl I.fr.size⟩
      · rcases hat j A hj with ⟨e', _⟩ | ⟨_, e'⟩
        · exact absurd e' e
        · exact I.new j b m A e' hA p
    fr := ⟨hos.trans I.fr.os, hta.trans I.fr.tape, hou.trans I.fr.output, by rw [hheap]; simp; exact Nat.le_succ_of_le I.fr.size, fun b hb hn => by
      have := I.fr.size
      rw [hheap, Array.getElem?_push, if_neg (by omega)]; exact I.fr.block b hb hn⟩ }

end Tc
end Ex
end Go.Proofs.YtjdmkgnlakonbaaGreatDoor
namespace Go.Proofs.YtjdmkgnlakonbaaGreatDoor
namespace Ex
namespace Tc

variable {P : Program} {T : Tc} {K : Nat} {ext : FuncId → List AV → Option AV} {call : FuncId → List AV → St → CRes} {fN : Fm} {SN : St} {ρ0 ρ : Rho} {w0 w : World} {L : Array Bool} {a : Act} {M : St} {H : Nat → Option AB}

/-- What is listed of the effects is before one that is ready. -/
theorem eff_before (G : T.Good K P ext call fN SN) (hd : Down T.ops L) {e : Nat} (hE : T.IsE e) (hnl : ¬ Lst L e) {e' : Nat} (hE' : T.IsE e') (hl : Lst L e') : Anc T.ops e e' := by
  rcases G.chain e e' hE hE' with h | h | h
  · subst h; exact absurd hl hnl
  · exact h
  · exact absurd (h.lst hd hl) hnl

theorem prev_cur (G : T.Good K P ext call fN SN) (hd : Down T.ops L) {e : Nat} (hE : T.IsE e) (hnl : ¬ Lst L e) (hanc : ∀ k, Anc T.ops e k → Lst L k) {M' : St} (hc : T.Cur L M) (hp : T.Prev e M') : M' = M := by
  rcases hp with ⟨p1, p2⟩ | ⟨e', Ma, p1, p2, p3⟩
  · rcases hc with ⟨_, c2⟩ | ⟨e1, Ma1, c1, c2, _⟩
    · rw [p2, c2]
    · exact absurd (eff_before G hd hE hnl ⟨_, _, c1⟩ c2) (p1 e1 ⟨_, _, c1⟩)
  · rcases hc with ⟨c1, _⟩ | ⟨e1, Ma1, c1, c2, c3⟩
    · exact absurd (hanc e' p2) (c1 e' ⟨_, _, p1⟩)
    · have h1 := p3 e1 ⟨_, _, c1⟩ (eff_before G hd hE hnl ⟨_, _, c1⟩ c2)
      have h2 := c3 e' ⟨_, _, p1⟩ (hanc e' p2)
      rcases h1 with h1 | h1
      · subst h1
        obtain ⟨v1, q1⟩ := p1
        obtain ⟨v2, q2⟩ := c1
        rw [q1] at q2; injection q2 with q2; injection q2
      · rcases h2 with h2 | h2
        · subst h2
          obtain ⟨v1, q1⟩ := p1
          obtain ⟨v2, q2⟩ := c1
          rw [q1] at q2; injection q2 with q2; injection q2
        · exact absurd (ancTrans h1 h2) (G.irr e' ⟨_, _, p1⟩)

/-- What the effect finds. -/
theorem Inv.at_effect (G : T.Good K P ext call fN SN) (I : T.Inv K ρ0 w0 L a w ρ M H) {e : Nat} {Ma M1 : St} (hE : T.Ef e Ma M1) (hnl : ¬ Lst L e) (hanc : ∀ k, Anc T.ops e k → Lst L k) :
    Ma.next = M.next ∧ (∀ id A, Ma.heap.at id = some A → H id = some A) ∧ (∀ id A, Ma.heap.at id = some A → M.heap.at id = some A ∨ ∃ (i : Nat) (v : AV), T.recs[i]? = some (.mk id A v) ∧ Anc T.ops e i) := by
  obtain ⟨M', h1, h2, h3⟩ := G.absorb e Ma M1 hE
  have := prev_cur G I.down ⟨_, _, hE⟩ hnl hanc I.cur h1
  subst this
  refine ⟨h2, fun id A hA => ?_, fun id A hA => (h3 id A hA).imp (fun h => h) (fun ⟨i, v, q1, q2, _⟩ => ⟨i, v, q1, q2⟩)⟩
  rcases h3 id A hA with h | ⟨i, v, q1, q2, q3⟩
  · rw [I.hp.2 id ?_]
    · exact h
    · rintro B ⟨k, v, hk, hl, hn⟩
      rw [I.free2 k id B v hk hn] at h; cases h
  · refine I.hp.1 id A ⟨i, v, q1, hanc i q2, ?_⟩
    rintro ⟨e', hE', hl, ha⟩
    exact q3 e' hE' (eff_before G I.down ⟨_, _, hE⟩ hnl hE' hl) ha

open Classical in
/-- An effect. -/
theorem Inv.effect (G : T.Good K P ext call fN SN) (I : T.Inv K ρ0 w0 L a w ρ M H) {i : Nat} {o : Oper} {v : AV} {Ma M1 : St} {x : Value} {σ : Rho} {w' : World} (hi : i < L.size) (ho : T.ops[i]? = some o)
    (hr : T.recs[i]? = some (.eff v Ma M1)) (hnl : ¬ Lst L i) (hp : ∀ j ∈ preds o, Lst L j) (hanc : ∀ k, Anc T.ops i k → Lst L k)
    (hx : VR σ v x) (hup : Up K Ma M1 ρ σ w) (hwr : WR σ M1 w') (hfr : Fr K Ma ρ w w') :
    ∃ H', T.Inv K ρ0 w0 (L.setIfInBounds i true) (a.put o.dst x) w' σ M1 H' := by
  have hE : T.Ef i Ma M1 := ⟨v, hr⟩
  obtain ⟨hnx, hsub, hwhere⟩ := I.at_effect G hE hnl hanc
  obtain ⟨h1, h2⟩ := outs_put G I hup.le hi ho hr hx
  have habs : ∀ k, T.Abs (L.setIfInBounds i true) k ↔ T.Abs L k ∨ Anc T.ops i k := by
    intro k
    constructor
    · rintro ⟨e, he, hl, ha⟩
      rw [lst_set hi] at hl
      rcases hl with e1 | hl
      · subst e1; exact .inr ha
      · exact .inl ⟨e, he, hl, ha⟩
    · rintro (⟨e, he, hl, ha⟩ | ha)
      · exact ⟨e, he, (lst_set hi).2 (.inr hl), ha⟩
      · exact ⟨i, ⟨_, _, hE⟩, (lst_set hi).2 (.inl rfl), ha⟩
  have hfl : ∀ {id B}, T.Fl (L.setIfInBounds i true) id B → T.Fl L id B ∧ id < M.next ∧ Ma.heap.at id = none := by
    rintro id B ⟨k, u, hk, hl, hn⟩
    rw [lst_set hi] at hl
    rcases hl with e | hl
    · subst e; rw [hr] at hk; injection hk with hk; cases hk
    · have hn1 : ¬ T.Abs L k := fun h => hn ((habs k).2 (.inl h))
      have hn2 : ¬ Anc T.ops i k := fun h => hn ((habs k).2 (.inr h))
      have hid := G.ids k id B u hk
      have hks : k < T.ops.size := by
        have : k < T.recs.length := by
          by_cases h : k < T.recs.length
          · exact h
          · rw [List.getElem?_eq_none (by omega)] at hk; cases hk
        rw [G.len] at this; exact this
      refine ⟨⟨k, u, hk, hl, hn1⟩, by have := I.nx; omega, ?_⟩
      cases hma : Ma.heap.at id with
      | none => rfl
      | some A =>
        rcases hwhere id A hma with h | ⟨k', u', q1, q2⟩
        · rw [I.free2 k id B u hk hn1] at h; cases h
        · have := G.ids k' id A u' q1
          have e : k' = k := by omega
          subst e; exact absurd q2 hn2
  have huniq : ∀ {id B B'}, T.Fl (L.setIfInBounds i true) id B → T.Fl (L.setIfInBounds i true) id B' → B = B' := by
    rintro id B B' ⟨k, u, hk, _⟩ ⟨k', u', hk', _⟩
    have := G.ids k id B u hk
    have := G.ids k' id B' u' hk'
    have e : k' = k := by omega
    subst e; rw [hk] at hk'; injection hk' with hk'; injection hk' with q1 q2
  have hnolive : ∀ {id B b m}, T.Fl (L.setIfInBounds i true) id B → B.live = true → ρ id = some (b, m) → ∀ j n A, Ma.heap.at j = some A → A.live = true → ρ j ≠ some (b, n) := by
    intro id B b m hF hB hρ j n A hA hl hj
    obtain ⟨f1, f2, f3⟩ := hfl hF
    have := I.wr.inj id j b m n B A (I.hp.1 id B f1) (hsub j A hA) hB hl hρ hj
    subst this; rw [f3] at hA; cases hA
  have hH : ∀ id, (if h : ∃ B, T.Fl (L.setIfInBounds i true) id B then some h.choose else M1.heap.at id) = (if h : ∃ B, T.Fl (L.setIfInBounds i true) id B then some h.choose else M1.heap.at id) := fun _ => rfl
  let H' : Nat → Option AB := fun id => if h : ∃ B, T.Fl (L.setIfInBounds i true) id B then some h.choose else M1.heap.at id
  have hH1 : ∀ id B, T.Fl (L.setIfInBounds i true) id B → H' id = some B := by
    intro id B hF
    have h : ∃ B, T.Fl (L.setIfInBounds i true) id B := ⟨B, hF⟩
    show (if h : ∃ B, T.Fl (L.setIfInBounds i true) id B then some h.choose else M1.heap.at id) = some B
    rw [dif_pos h, huniq h.choose_spec hF]
  have hH2 : ∀ id, (∀ B, ¬ T.Fl (L.setIfInBounds i true) id B) → H' id = M1.heap.at id := by
    intro id h
    show (if h : ∃ B, T.Fl (L.setIfInBounds i true) id B then some h.choose else M1.heap.at id) = _
    rw [dif_neg (fun ⟨B, hB⟩ => h B hB)]
  have hcase : ∀ id A, H' id = some A → T.Fl (L.setIfInBounds i true) id A ∨ M1.heap.at id = some A := by
    intro id A hA
    by_cases h : ∃ B, T.Fl (L.setIfInBounds i true) id B
    · obtain ⟨B, hB⟩ := h
      rw [hH1 id B hB] at hA; injection hA with hA; subst hA; exact .inl hB
    · rw [hH2 id fun B hB => h ⟨B, hB⟩] at hA; exact .inr hA
  have hsold : ∀ j, j < M.next → σ j = ρ j := fun j hj => hup.old j (by rw [hnx]; exact hj)
  -- a floating block and a known one
  have hmix : ∀ {id B j C b m n}, T.Fl (L.setIfInBounds i true) id B → M1.heap.at j = some C → B.live = true → C.live = true → σ id = some (b, m) → σ j = some (b, n) → id = j := by
    intro id B j C b m n hF hC hB hl hσ hj
    obtain ⟨f1, f2, f3⟩ := hfl hF
    rw [hsold id f2] at hσ
    rcases hup.new j b n C hC hl hj with ⟨q1, A', q2, q3⟩ | ⟨_, q | ⟨j', m', A', _, q2, q3, q4⟩⟩
    · exact absurd q1 (hnolive hF hB hσ j n A' q2 q3)
    · exact absurd (I.wr.low id b m hσ) (by omega)
    · exact absurd q4 (hnolive hF hB hσ j' m' A' q2 q3)
  refine ⟨H', {
    size := by simp [I.size]
    down := down_set hi ho I.down hp
    slots := by cases hd : o.dst <;> simp [Act.put, I.slots]
    outs := h1
    olds := h2
    cur := .inr ⟨i, Ma, hE, (lst_set hi).2 (.inl rfl), fun e' hE' hl => by
      rw [lst_set hi] at hl
      rcases hl with e | hl
      · exact .inl e
      · exact .inr (eff_before G I.down ⟨_, _, hE⟩ hnl hE' hl)⟩
    hp := ⟨hH1, hH2⟩
    wr := ?_
    nx := by have := hup.next; rw [hnx] at this; exact Nat.le_trans I.nx this
    free1 := fun k id B u hk hl => by
      have hks : k < T.recs.length := by
        by_cases h : k < T.recs.length
        · exact h
        · rw [List.getElem?_eq_none (by omega)] at hk; cases hk
      rw [G.len] at hks
      have := G.ids k id B u hk
      rw [hsold id (by have := I.nx; omega)]
      exact I.free1 k id B u hk fun h => hl ((lst_set hi).2 (.inr h))
    free2 := fun k id B u hk hn => by
      have hks : k < T.recs.length := by
        by_cases h : k < T.recs.length
        · exact h
        · rw [List.getElem?_eq_none (by omega)] at hk; cases hk
      rw [G.len] at hks
      have hid := G.ids k id B u hk
      refine hup.keep id (by rw [hnx]; have := I.nx; omega) ?_
      cases hma : Ma.heap.at id with
      | none => rfl
      | some A =>
        rcases hwhere id A hma with h | ⟨k', u', q1, q2⟩
        · rw [I.free2 k id B u hk fun h => hn ((habs k).2 (.inl h))] at h; cases h
        · have := G.ids k' id A u' q1
          have e : k' = k := by omega
          subst e; exact absurd ((habs k').2 (.inr q2)) hn
    le := Rho.le_trans I.le hup.le
    old := fun j hj => (hsold j (by have := I.nx; omega)).trans (I.old j hj)
    keep := fun j hj h0 => by
      refine hup.keep j (by rw [hnx]; have := I.nx; omega) ?_
      cases hma : Ma.heap.at j with
      | none => rfl
      | some A =>
        rcases hwhere j A hma with h | ⟨k', u', q1, _⟩
        · rw [I.keep j hj h0] at h; cases h
        · have := G.ids k' j A u' q1; omega
    new := ?_
    fr := ?_ }⟩
  · refine ⟨fun j k b m n A C hj hk hA hC hrj hrk => ?_, fun j hj => ⟨(hwr.dom j hj).1, ?_⟩, hwr.lim, hwr.low, fun j A hj => ?_⟩
    · rcases hcase j A hj with hj | hj <;> rcases hcase k C hk with hk | hk
      · obtain ⟨f1, f2, _⟩ := hfl hj
        obtain ⟨g1, g2, _⟩ := hfl hk
        rw [hsold j f2] at hrj; rw [hsold k g2] at hrk
        exact I.wr.inj j k b m n A C (I.hp.1 j A f1) (I.hp.1 k C g1) hA hC hrj hrk
      · exact hmix hj hk hA hC hrj hrk
      · exact (hmix hk hj hC hA hrk hrj).symm
      · exact hwr.inj j k b m n A C hj hk hA hC hrj hrk
    · rw [hH2 j ?_]
      · exact (hwr.dom j hj).2
      · intro B hF
        have := (hfl hF).2.1
        have := hup.next
        omega
    · rcases hcase j A hj with hj | hj
      · obtain ⟨f1, f2, f3⟩ := hfl hj
        obtain ⟨b, n, q1, q2⟩ := I.wr.blk j A (I.hp.1 j A f1)
        refine ⟨b, n, hup.le _ _ q1, ?_⟩
        cases hA : A.live with
        | false => cases A <;> first | trivial | cases hA
        | true =>
          rw [hfr.block b (I.wr.low j _ _ q1) fun k m C _ hC hl => hnolive hj hA q1 k m C hC hl]
          exact q2.mono hup.le
      · exact hwr.blk j A hj
  · intro j b n A hj hA hrj
    rcases hcase j A hj with hj | hj
    · obtain ⟨f1, f2, _⟩ := hfl hj
      rw [hsold j f2] at hrj
      exact I.new j b n A (I.hp.1 j A f1) hA hrj
    · rcases hup.new j b n A hj hA hrj with ⟨q1, A', q2, q3⟩ | ⟨hKj, q | ⟨k, m, A', hk, q2, q3, q4⟩⟩
      · exact I.new j b n A' (hsub j A' q2) q3 q1
      · exact .inr ⟨hKj, .inl (Nat.le_trans I.fr.size q)⟩
      · rcases I.new k b m A' (hsub k A' q2) q3 q4 with ⟨r1, A2, r2, r3⟩ | ⟨_, r⟩
        · exact .inr ⟨hKj, .inr ⟨k, m, A2, hk, r2, r3, r1⟩⟩
        · exact .inr ⟨hKj, r⟩
  · refine ⟨hfr.os.trans I.fr.os, hfr.tape.trans I.fr.tape, hfr.output.trans I.fr.output, Nat.le_trans I.fr.size hfr.size, fun b hb hn => ?_⟩
    rw [hfr.block b (Nat.lt_of_lt_of_le hb I.fr.size) ?_, I.fr.block b hb hn]
    intro j n A hKj hA hl hj
    rcases I.new j b n A (hsub j A hA) hl hj with ⟨r1, A2, r2, r3⟩ | ⟨_, r | ⟨k, m, A2, hk, r2, r3, r4⟩⟩
    · exact hn j n A2 hKj r2 r3 r1
    · omega
    · exact hn k m A2 hk r2 r3 r4

end Tc
end Ex
end Go.Proofs.YtjdmkgnlakonbaaGreatDoor
namespace Go.Proofs.YtjdmkgnlakonbaaGreatDoor
namespace Ex
namespace Tc

variable {P : Program} {T : Tc} {K : Nat} {ext : FuncId → List AV → Option AV} {call : FuncId → List AV → St → CRes} {fN : Fm} {SN : St}

theorem drawn_ok (hm : P.follows .mixedOrders = true) {Z : Kept K} (hext : Ext2Ok Z P ext) (hcall : CallOk Z P call) (G : T.Good K P ext call fN SN) {id : Nat} {r : Option Nat} {n lo : Nat} {ρ0 : Rho} {a0 : Act} {w0 : World} {Q : Exit → Act → World → Prop}
    (hf : FR ρ0 T.f0 a0) (hw : WR ρ0 T.S w0) (hmk : MkOk lo T.S ρ0 w0 a0.defers) (hK : K ≤ T.S.next) (hz : Z.p T.S ρ0 w0) (h : RelQ K lo T.S ρ0 w0 Q (.normal fN SN)) : (Code.region id T.ops true).wpIn (wf r) n P Q a0 w0 := by
  refine wpIn_region_any hm ?_
  have hsz : (Array.replicate T.ops.size false).size = T.ops.size := by simp
  have hno : ∀ j, ¬ Lst (Array.replicate T.ops.size false) j := by
    intro j hj
    unfold Lst at hj
    rw [Array.getD_eq_getD_getElem?, Array.getElem?_replicate] at hj
    split at hj <;> simp at hj
  have hmkN : ∀ {i idd : Nat} {B : AB} {v : AV}, T.recs[i]? = some (.mk idd B v) → T.S.next ≤ idd ∧ idd < T.S.next + T.ops.size := by
    intro i idd B v hk
    have hks : i < T.recs.length := by
      by_cases h : i < T.recs.length
      · exact h
      · rw [List.getElem?_eq_none (by omega)] at hk; cases hk
    rw [G.len] at hks
    have := G.ids i idd B v hk
    omega
  -- the beginning
  have I0 : T.Inv K ρ0 w0 (Array.replicate T.ops.size false) a0 w0.drew ρ0 T.M0 T.S.heap.at := {
    size := hsz
    down := fun i o j _ hl _ => absurd hl (hno i)
    slots := hf.2.1
    outs := fun j o d r _ _ _ hl => absurd hl (hno j)
    olds := fun t v _ hv => hf.2.2 t v hv
    cur := .inl ⟨fun e _ hl => hno e hl, rfl⟩
    hp := ⟨fun _ _ ⟨k, _, _, hl, _⟩ => absurd hl (hno k), fun _ _ => rfl⟩
    wr := ⟨hw.inj, fun i hi => hw.dom i (by have : T.S.next + T.ops.size ≤ i := hi; omega), G.lim, hw.low, hw.blk⟩
    nx := Nat.le_refl _
    free1 := fun i idd B v hk _ => (hw.dom idd (hmkN hk).1).1
    free2 := fun i idd B v hk _ => (hw.dom idd (hmkN hk).1).2
    le := Rho.le_refl _
    old := fun _ _ => rfl
    keep := fun _ _ h0 => h0
    new := fun i b n A hA hl hr => .inl ⟨hr, A, hA, hl⟩
    fr := ⟨rfl, rfl, rfl, Nat.le_refl _, fun _ _ _ => rfl⟩ }
  refine wpAny_of_inv (fun L a w => a.defers = a0.defers ∧ ∃ ρ M H, T.Inv K ρ0 w0 L a w ρ M H) ?_ ?_ (fun L a w ⟨_, _, _, _, I⟩ => I.size) _ _ _ _ ?_ ⟨rfl, _, _, _, I0⟩
  · -- the end
    rintro L a w ⟨hds, ρ, M, H, I⟩ hr
    have hall : ∀ i, i < T.ops.size → Lst L i := by
      intro i
      induction i using Nat.strongRecOn with
      | _ i ih =>
        intro hi
        refine Classical.byContradiction fun hn => ?_
        have hiL : i < L.size := by rw [I.size]; exact hi
        have hLi : L[i]? = some false := by
          have e : L[i]? = some L[i] := by simp [hiL]
          cases hb : L[i] with
          | false => rw [e, hb]
          | true => exact absurd (by unfold Lst; rw [Array.getD_eq_getD_getElem?, e, hb]; rfl) hn
        have hmem : i ∈ Region.ready .any T.ops L := by
          unfold Region.ready
          rw [List.mem_filter]
          refine ⟨List.mem_range.2 hi, ?_⟩
          have ho : T.ops[i]? = some T.ops[i] := by simp [hi]
          rw [ho, Array.getD_eq_getD_getElem?, hLi]
          simp only [Option.getD_some, Bool.not_false, Option.map_some, Bool.true_and]
          rw [Array.all_eq_true_iff_forall_mem]
          intro e he
          cases hb : Region.binds .any e with
          | false => rfl
          | true =>
            have hj : e.on ∈ preds T.ops[i] := by
              unfold preds
              rw [List.mem_map]
              exact ⟨e, List.mem_filter.2 ⟨by simpa using he, hb⟩, rfl⟩
            have hlt := G.back i _ _ ho hj
            have := ih e.on hlt (Nat.lt_trans hlt hi)
            unfold Lst at this
            rw [this]; rfl
        rw [hr] at hmem; cases hmem
    obtain ⟨l1, l2⟩ := G.last L M hall I.cur
    have hWR : WR ρ SN w := I.wr.tr (l2 H I.hp) l1
    have hnew : ∀ i b n A, SN.heap.at i = some A → A.live = true → ρ i = some (b, n) →
        (ρ0 i = some (b, n) ∧ ∃ A', T.S.heap.at i = some A' ∧ A'.live = true) ∨ (K ≤ i ∧ (w0.heap.size ≤ b ∨ ∃ j m A', K ≤ j ∧ T.S.heap.at j = some A' ∧ A'.live = true ∧ ρ0 j = some (b, m))) :=
      fun i b n A hA hl hri => I.new i b n A (l2 H I.hp i A hA) hl hri
    refine h a w ρ ⟨rfl, by rw [G.frame.1]; exact I.slots, fun t v ht => ?_⟩ hWR (by rw [hds]; exact hmk.step ⟨I.le, hnew, I.fr⟩) ?_ I.fr
    · rcases G.frame.2 t v ht with ⟨j, oj, r, q1, q2, q3, q4⟩ | ⟨q1, q2⟩
      · subst q4
        refine I.outs j oj t r q1 q2 q3 (hall j ?_)
        by_cases hj : j < T.ops.size
        · exact hj
        · rw [Array.getElem?_eq_none (by omega)] at q1; cases q1
      · exact I.olds t v (fun j oj hj hd => absurd hd (q1 j oj hj)) q2
    · refine ⟨I.le, ?_, I.old, fun i hi h0 => ?_, hnew⟩
      · have := I.nx; rw [l1]; omega
      · cases hs : SN.heap.at i with
        | none => rfl
        | some A =>
          have hH := l2 H I.hp i A hs
          rw [I.hp.2 i ?_] at hH
          · rw [I.keep i hi h0] at hH; cases hH
          · rintro B ⟨k, u, hk, _⟩
            have := (hmkN hk).1; omega
  · -- a step
    rintro L a w i ⟨hds, ρ, M, H, I⟩ hi
    have hlt : i < T.ops.size := by
      unfold Region.ready at hi
      exact List.mem_range.1 (List.mem_filter.1 hi).1
    have hiL : i < L.size := by rw [I.size]; exact hlt
    obtain ⟨o, ho⟩ : ∃ o, T.ops[i]? = some o := ⟨T.ops[i], by simp [hlt]⟩
    obtain ⟨r, hr⟩ : ∃ r, T.recs[i]? = some r := by
      have : i < T.recs.length := by rw [G.len]; exact hlt
      exact ⟨T.recs[i], by simp [this]⟩
    have hp := ready_preds hi ho
    have hanc : ∀ k, Anc T.ops i k → Lst L k := fun k hk => ready_anc I.down hi hk
    have hnl : ¬ Lst L i := by
      unfold Region.ready at hi
      have := (List.mem_filter.1 hi).2
      simp only [Bool.and_eq_true, Bool.not_eq_true'] at this
      intro h
      unfold Lst at h
      have h0 := this.1
      rw [Array.getD_eq_getD_getElem?] at h h0
      have : L[i]? = some L[i] := by simp [hiL]
      rw [this] at h h0
      simp at h h0
      rw [h] at h0; cases h0
    obtain ⟨g, hs, hop⟩ := G.op i o r ho hr
    have hfr : FR ρ g a := I.sees hs hnl hp
    unfold wpOpIn
    rw [ho]
    dsimp only
    cases r with
    | skip =>
      simp only at hop
      rw [want_ok hop hfr]
      simp only [Bool.false_eq_true, if_false]
      exact ⟨fun _ _ => trivial, by rw [put_defers]; exact hds, ρ, M, H, I.quiet G hiL ho hr rfl rfl hp (by simp only [Rec.out, VR]; exact ⟨[], rfl, by simp [VRL]⟩)⟩
    | val v =>
      simp only at hop
      rw [want_ok hop.1 hfr]
      simp only [if_true]
      rcases hop.2 with h1 | ⟨c, g', vs, h1, h2, h3⟩
      · obtain ⟨x, q1, q2⟩ := pureOp_ok h1 hfr w
        exact valOp_ok (value_no_defer q1) q1 ⟨by rw [put_defers]; exact hds, ρ, M, H, I.quiet G hiL ho hr rfl rfl hp q2⟩
      · have hex : execOp a.eval o = (do let d ← resolve a.eval c o.type; invoke d.target d.args : Sem Next) := by unfold execOp; rw [h1]
        obtain ⟨xs, hxs, hrun⟩ := callee_ok (P := P) h2 hfr o.type w
        obtain ⟨hlt', he⟩ := hext g' vs v h3
        rcases hrun with ⟨_, hrun⟩ | ⟨y, b, m, e, _⟩
        · have hzz : Z.p ⟨.e, 0⟩ ρ w := by
            refine Z.step hz ⟨I.le, fun i b n A hA => ?_, I.fr⟩
            have hA : (Tr.e : Tr AB).at i = some A := hA
            rw [Tr.at_e] at hA; cases hA
          rcases he ρ xs w ⟨.e, 0⟩ hxs hzz with ⟨x, q1, q2⟩ | ⟨q1, q2⟩
          · exact valOp_ok (by rw [h1]; intro c h; cases h) (by rw [hex, hrun, q1]) ⟨by rw [put_defers]; exact hds, ρ, M, H, I.quiet G hiL ho hr rfl rfl hp q2⟩
          · refine ⟨fun _ _ => trivial, ?_⟩
            rw [Oper.semAt_eq _ _ _ (by rw [h1]; intro c h; cases h), hex, hrun, q1, Oper.uponIn_enter]
            refine ⟨fun h => (by cases h), (callsIn_wide (n := n - 1)).2 (q2.mono ?_)⟩
            rintro e w' ⟨x, rfl, hx, hb⟩
            exact ⟨by rw [put_defers]; exact hds, ρ, M, H, (I.grow hb).quiet G hiL ho hr rfl rfl hp hx⟩
        · exact (fid_no hlt' e).elim
    | read v =>
      simp only at hop
      rw [want_ok hop.1 hfr]
      simp only [if_true]
      have hM : WR ρ M w := I.wr.tr (fun j A hA => by
        rw [I.hp.2 j ?_]
        · exact hA
        · rintro B ⟨k, u, hk, _, hn⟩
          rw [I.free2 k j B u hk hn] at hA; cases hA) rfl
      obtain ⟨x, q1, q2⟩ := readOp_ok (hop.2 L M I.down hnl hp I.cur) hfr hM
      exact valOp_ok (value_no_defer q1) q1 ⟨by rw [put_defers]; exact hds, ρ, M, H, I.quiet G hiL ho hr rfl rfl hp q2⟩
    | mk idd B v =>
      simp only at hop
      rw [want_ok hop.1 hfr]
      simp only [if_true]
      obtain ⟨x, ob, n, w', q1, q2, q3, q4, q5, q6⟩ := allocOp_ok hop.2 hfr w
      have hnone : ρ idd = none := I.free1 i idd B v hr hnl
      obtain ⟨r1, r2⟩ := q6 _ (Rho.le_set (p := (w.heap.size, n)) hnone) (Rho.set_same _ _ _)
      obtain ⟨H', I'⟩ := I.make G hK hiL ho hr hnl hp q2 q3 q4 q5 r1 r2
      exact valOp_ok (value_no_defer q1) q1 ⟨by rw [put_defers]; exact hds, _, M, H', I'⟩
    | eff v Ma M1 =>
      simp only at hop
      rw [want_ok hop.1 hfr]
      simp only [if_true]
      obtain ⟨hnx, hsub, _⟩ := I.at_effect G (e := i) ⟨v, hr⟩ hnl hanc
      have hWa : WR ρ Ma w := I.wr.tr hsub hnx
      have hKa : K ≤ Ma.next := by rw [hnx]; have := I.nx; omega
      rcases hop.2 with h1 | ⟨c, g', vs, h1, h2, h3⟩
      · obtain ⟨x, w', σ, q1, q2, q3, q4, q5⟩ := effOp_ok h1 hfr hWa hKa
        obtain ⟨H', I'⟩ := I.effect G hiL ho hr hnl hp hanc q4 q2 q3 q5
        rcases q1 with q1 | ⟨q1, hx⟩
        · exact valOp_ok (value_no_defer q1) q1 ⟨by rw [put_defers]; exact hds, _, _, _, I'⟩
        · subst hx; exact skipOp_ok (skip_no_defer q1) q1 ⟨by rw [put_defers]; exact hds, _, _, _, I'⟩
      · refine callOp_ok hcall h1 h2 h3 hfr hWa hKa (Z.step hz ⟨I.le, fun j b n A hA hl hr => I.new j b n A (hsub j A hA) hl hr, I.fr⟩) fun x σ w' hx hw' hu hfr' => ?_
        obtain ⟨H', I'⟩ := I.effect G hiL ho hr hnl hp hanc hx hu hw' hfr'
        exact ⟨by rw [put_defers]; exact hds, _, _, _, I'⟩
  · unfold leftOf
    refine Nat.le_trans (List.length_filter_le _ _) ?_
    simp

end Tc
end Ex
end Go.Proofs.YtjdmkgnlakonbaaGreatDoor
namespace Go.Proofs.YtjdmkgnlakonbaaGreatDoor
namespace Ex

variable {P : Program}

theorem anc_lt {ops : Array Oper} (hb : ∀ (i : Nat) (o : Oper) (j : Nat), ops[i]? = some o → j ∈ preds o → j < i) {i k : Nat} (h : Anc ops i k) : k < i := by
  induction h with
  | one ho hj => exact hb _ _ _ ho hj
  | more ho hj _ ih => exact Nat.lt_trans ih (hb _ _ _ ho hj)

theorem isAnc_all {ops : Array Oper} (hb : ∀ (i : Nat) (o : Oper) (j : Nat), ops[i]? = some o → j ∈ preds o → j < i) {i k : Nat} (h : Anc ops i k) : ∀ n, i < n → isAnc ops.toList n i k = true := by
  induction h with
  | @one i j o ho hj =>
    intro n hn
    obtain ⟨n, rfl⟩ : ∃ m, n = m + 1 := ⟨n - 1, by omega⟩
    show (match ops.toList[i]? with
      | none => false
      | some o => (preds o).any fun q => Nat.beq q j || isAnc ops.toList n q j) = true
    have : ops.toList[i]? = some o := by simpa using ho
    rw [this]
    rw [List.any_eq_true]
    exact ⟨j, hj, by rw [beq_t rfl]; rfl⟩
  | @more i j k o ho hj _ ih =>
    intro n hn
    obtain ⟨n, rfl⟩ : ∃ m, n = m + 1 := ⟨n - 1, by omega⟩
    show (match ops.toList[i]? with
      | none => false
      | some o => (preds o).any fun q => Nat.beq q k || isAnc ops.toList n q k) = true
    have : ops.toList[i]? = some o := by simpa using ho
    rw [this]
    rw [List.any_eq_true]
    have := hb _ _ _ ho hj
    exact ⟨j, hj, by rw [ih n (by omega), Bool.or_true]⟩

/-! The operation that writes a slot. -/
noncomputable def dstIs (o : Oper) (t : Nat) : Bool := match o.dst with
  | some d => Nat.beq d t
  | none => false
theorem dstIs_iff {o : Oper} {t : Nat} : dstIs o t = true ↔ o.dst = some t := by
  unfold dstIs
  cases o.dst with
  | none => simp
  | some d =>
    constructor
    · intro h; rw [Nat.eq_of_beq_eq_true h]
    · intro h; injection h with h; exact beq_t h
noncomputable def writer (t : Nat) (ops : List Oper) : Option Nat :=
  List.rec none (fun o _ ih => Bool.rec (Option.rec none (fun n => some (Nat.succ n)) ih) (some 0) (dstIs o t)) ops
theorem writer_cons (t : Nat) (o : Oper) (l : List Oper) : writer t (o :: l) = if o.dst = some t then some 0 else (writer t l).map Nat.succ := by
  show (Bool.rec (Option.rec none (fun n => some (Nat.succ n)) (writer t l)) (some 0) (dstIs o t) : Option Nat) = _
  by_cases h : o.dst = some t
  · rw [dstIs_iff.2 h, if_pos h]
  · have : dstIs o t = false := by cases hd : dstIs o t with | false => rfl | true => exact absurd (dstIs_iff.1 hd) h
    rw [this, if_neg h]
    cases writer t l <;> rfl
theorem writer_none {t : Nat} : ∀ {l : List Oper}, writer t l = none → ∀ (j : Nat) (o : Oper), l[j]? = some o → o.dst ≠ some t
  | [], _, j, o, h => by simp at h
  | x :: l, hw, j, o, h => by
    rw [writer_cons] at hw
    by_cases e : x.dst = some t
    · rw [if_pos e] at hw; cases hw
    · rw [if_neg e] at hw
      cases j with
      | zero => simp at h; subst h; exact e
      | succ j => exact writer_none (by simpa using hw) j o (by simpa using h)
theorem writer_some {t : Nat} : ∀ {l : List Oper} {k : Nat}, writer t l = some k → ∃ o, l[k]? = some o ∧ o.dst = some t
  | [], _, h => by cases h
  | x :: l, k, hw => by
    rw [writer_cons] at hw
    by_cases e : x.dst = some t
    · rw [if_pos e] at hw; injection hw with hw; subst hw; exact ⟨x, by simp, e⟩
    · rw [if_neg e] at hw
      cases hl : writer t l with
      | none => simp [hl] at hw
      | some n =>
        simp [hl] at hw; subst hw
        obtain ⟨o, h1, h2⟩ := writer_some hl
        exact ⟨o, by simpa using h1, h2⟩

/-- What is seen of a slot: nothing at all (.none), nothing known (some none), a value. -/
noncomputable def slotOf (ops : List Oper) (f0 : Fm) (recs : List Rec) (ps : List Nat) (an : Nat → Bool) (t : Nat) : Option (Option AV) :=
  match writer t ops with
  | none => some (f0.t.at t)
  | some j => match ps.any (Nat.beq j), recs[j]? with
    | true, some r => some (some r.out)
    | _, _ => match an j with
      | true => some (f0.t.at t)
      | false => none

noncomputable def seeG (ops : List Oper) (f0 : Fm) (recs : List Rec) (ps : List Nat) (an : Nat → Bool) (ts : List Nat) : Option (Tr AV) :=
  List.rec (some .e) (fun t _ ih => match ih with
    | none => none
    | some tr => match Nat.blt t 1048575, slotOf ops f0 recs ps an t with
      | true, some (some v) => some (tr.to t v)
      | true, some none => some tr
      | _, _ => none) ts

theorem seeG_ok {ops : Array Oper} {f0 : Fm} {recs : List Rec} {o : Oper} {an : Nat → Bool} {i : Nat} (han : ∀ j, an j = true → Anc ops j i) (huniq : ∀ (a b : Nat) (oa ob : Oper) (d : Nat), ops[a]? = some oa → ops[b]? = some ob → oa.dst = some d → ob.dst = some d → a = b) :
    ∀ {ts : List Nat} {tr : Tr AV}, seeG ops.toList f0 recs (preds o) an ts = some tr → ∀ t v, tr.at t = some v →
    (∃ (j : Nat) (oj : Oper) (r : Rec), ops[j]? = some oj ∧ oj.dst = some t ∧ recs[j]? = some r ∧ v = r.out ∧ j ∈ preds o) ∨ ((∀ (j : Nat) (oj : Oper), ops[j]? = some oj → oj.dst = some t → Anc ops j i) ∧ f0.t.at t = some v)
  | [], tr, h, t, v, ht => by
    have h : some .e = some tr := h
    injection h with h; subst h; rw [Tr.at_e] at ht; cases ht
  | s :: ts, tr, h, t, v, ht => by
    have h : (match seeG ops.toList f0 recs (preds o) an ts with
      | none => none
      | some tr => match Nat.blt s 1048575, slotOf ops.toList f0 recs (preds o) an s with
        | true, some (some v) => some (tr.to s v)
        | true, some none => some tr
        | _, _ => none) = some tr := h
    split at h
    · cases h
    · rename_i tr' htr
      split at h
      · rename_i u hlt hs
        injection h with h; subst h
        have hlt : s < 1048575 := by rwa [Nat.blt_eq] at hlt
        rw [Tr.at_to _ _ _ _ hlt] at ht
        by_cases e : t = s
        · rw [if_pos e] at ht; injection ht with ht; subst ht; subst e
          unfold slotOf at hs
          split at hs
          · rename_i hw
            injection hs with hs
            exact .inr ⟨fun j oj hj hd => absurd hd (writer_none hw j oj (by simpa using hj)), hs⟩
          · rename_i j hw
            obtain ⟨oj, h1, h2⟩ := writer_some hw
            have h1 : ops[j]? = some oj := by simpa using h1
            split at hs
            · rename_i r hp hr
              injection hs with hs; injection hs with hs
              rw [List.any_eq_true] at hp
              obtain ⟨q, hq, e⟩ := hp
              have := Nat.eq_of_beq_eq_true e; subst this
              exact .inl ⟨j, oj, r, h1, h2, hr, hs.symm, hq⟩
            · split at hs
              · rename_i ha
                injection hs with hs
                exact .inr ⟨fun k ok hk hd => by rw [huniq k j ok oj _ hk h1 hd h2]; exact han j ha, hs⟩
              · cases hs
        · rw [if_neg e] at ht; exact seeG_ok han huniq htr t v ht
      · injection h with h; subst h; exact seeG_ok han huniq htr t v ht
      · cases h

/-! New blocks told to memory. -/
noncomputable def absorbP (c : Nat → Bool) (recs : List Rec) : Nat → St → St :=
  List.rec (motive := fun _ => Nat → St → St) (fun _ M => M)
    (fun r _ ih k M => match r with
      | .mk id B _ => Bool.rec (ih (Nat.succ k) M) (ih (Nat.succ k) ⟨M.heap.to id B, M.next⟩) (c k)
      | _ => ih (Nat.succ k) M) recs

theorem absorbP_next (c : Nat → Bool) : ∀ (recs : List Rec) (k : Nat) (M : St), (absorbP c recs k M).next = M.next
  | [], _, _ => rfl
  | r :: recs, k, M => by
    cases r with
    | mk id B v =>
      show (Bool.rec (absorbP c recs (k + 1) M) (absorbP c recs (k + 1) ⟨M.heap.to id B, M.next⟩) (c k) : St).next = _
      cases c k with
      | false => exact absorbP_next c recs (k + 1) M
      | true => exact absorbP_next c recs (k + 1) ⟨M.heap.to id B, M.next⟩
    | _ => exact absorbP_next c recs (k + 1) M

theorem absorbP_at (c : Nat → Bool) : ∀ (recs : List Rec) (k : Nat) (M : St), (∀ (i id : Nat) (B : AB) (v : AV), recs[i]? = some (.mk id B v) → id < 1048575) → ∀ id A, (absorbP c recs k M).heap.at id = some A →
    M.heap.at id = some A ∨ ∃ (i : Nat) (v : AV), recs[i]? = some (.mk id A v) ∧ c (k + i) = true
  | [], _, _, _, id, A, h => .inl h
  | r :: recs, k, M, hl, id, A, h => by
    have hl' : ∀ (i id : Nat) (B : AB) (v : AV), recs[i]? = some (.mk id B v) → id < 1048575 := fun i id B v hi => hl (i + 1) id B v (by simpa using hi)
    have next : ∀ M', (absorbP c recs (k + 1) M').heap.at id = some A → M'.heap.at id = some A ∨ ∃ (i : Nat) (v : AV), (r :: recs)[i]? = some (.mk id A v) ∧ c (k + i) = true := by
      intro M' h
      rcases absorbP_at c recs (k + 1) M' hl' id A h with h | ⟨i, v, h1, h2⟩
      · exact .inl h
      · exact .inr ⟨i + 1, v, by simpa using h1, by rw [← h2]; congr 1; omega⟩
    cases r with
    | mk id' B v =>
      have h : (Bool.rec (absorbP c recs (k + 1) M) (absorbP c recs (k + 1) ⟨M.heap.to id' B, M.next⟩) (c k) : St).heap.at id = some A := h
      cases hc : c k with
      | false => rw [hc] at h; exact next M h
      | true =>
        rw [hc] at h
        rcases next _ h with h | h
        · have h : (M.heap.to id' B).at id = some A := h
          rw [Tr.at_to _ _ _ _ (hl 0 id' B v (by simp))] at h
          by_cases e : id = id'
          · rw [if_pos e] at h; injection h with h; subst h; subst e
            exact .inr ⟨0, v, by simp, by simpa using hc⟩
          · rw [if_neg e] at h; exact .inl h
        · exact .inr h
    | skip => exact next M h
    | val v => exact next M h
    | read v => exact next M h
    | eff v Ma M1 => exact next M h

end Ex
end Go.Proofs.YtjdmkgnlakonbaaGreatDoor
