/- Joined texts. A closed-run executor, part 29: code and calls. No program is named; no condition. · A closed-run executor, part 30: calls; the whole executor. No program is named; no condition. · A closed-run executor, part 31: regions that draw their order, what they need. No program is named; no condition. · A closed-run executor, part 32: regions that draw their order: what is told of a trace, and the invariant. No program is named; no condition. · A closed-run executor, part 33: regions that draw their order: the invariant goes on. No program is named; no condition. · A closed-run executor, part 34: regions that draw their order: an effect. No program is named; no condition. -/
import Derived.Test.YtdkijcmhjeaofaaGreatDoorQFc
import Derived.RangeFuncIn
import Derived.RangeFuncRecord
import Derived.RangeFuncLeaves
import Derived.Orders
import Derived.OrdersIn
namespace Go.Proofs.YtdkijcmhjeaofaaGreatDoor
namespace Ex

variable {P : Program}

/-- No loop over a function stands in a code. -/
noncomputable def noRF (c : Code) : Bool :=
  Code.rec (motive := fun _ => Bool) true (fun _ _ _ => true) (fun _ _ a b => a && b) (fun _ _ _ a b => a && b) (fun _ _ a => a) (fun _ a => a) (fun _ _ _ _ _ _ => false) (fun _ => true) (fun _ a => a) (fun _ => true) (fun _ => true) true (fun _ => true) c

/-- Slots written with values, in order. -/
noncomputable def setL (ps : List Nat) : List AV → Fm → Option Fm :=
  List.rec (motive := fun _ => List AV → Fm → Option Fm) (fun vs f => match vs with
    | [] => some f
    | _ => none) (fun p _ ih vs f => match vs with
    | [] => none
    | v :: vs => Bool.rec none (ih vs ⟨f.t.to p v, f.n⟩) (Nat.blt p f.n && Nat.blt p 1048575)) ps

/-- Yield of the loop y: its left sides, and its body. -/
noncomputable def yl (f : Fm) (ps : List Nat) (ia ib : Fm → St → Res) (y : Nat) : FuncId → List AV → St → CRes := fun g vs S =>
  match Nat.beq g (Nat.add 1048576 y), setL ps vs f with
  | true, some f' => match ia f' S with
    | .normal f1 S1 => match ib f1 S1 with
      | .normal _ S2 => .ok (.bool true) S2
      | .no w => .no (25 :: w)
      | _ => .no [26]
    | .no w => .no (27 :: w)
    | _ => .no [28]
  | _, _ => .no [29]

/-- A loop over a function. -/
noncomputable def rgo (rf : (FuncId → List AV → St → CRes) → FuncId → List AV → St → CRes) (g : Operand) (ps : List Nat) (ok : Bool) (ia ib : Fm → St → Res) (f : Fm) (S : St) : Res :=
  match ok && Nat.blt (Nat.succ S.next) 1048575, aev f g with
  | true, some (.func gf cap) => fNat S.next fun y => match Nat.blt gf 1048576, rf (yl f ps ia ib y) gf (.yld y :: cap) ⟨S.heap, Nat.succ y⟩ with
    | true, .ok _ S' => .normal f S'
    | true, .no w => .no (21 :: w)
    | false, _ => .no [21, 1]
  | _, _ => .no [21, 2]

/-- A code, by the code that is called and by the rounds that follow. -/
noncomputable def exec1 (K : Nat) (P : Program) (ext : FuncId → List AV → Option AV) (call : FuncId → List AV → St → CRes) (dr : Nat → Array Oper → Fm → St → Res) (again : Code → Fm → St → Res) (rf : (FuncId → List AV → St → CRes) → FuncId → List AV → St → CRes) (c : Code) : Fm → St → Res :=
  Code.rec (motive := fun _ => Fm → St → Res)
    (fun f S => .normal f S)
    (fun id ops draw f S => Bool.rec (doOps K P ext call ops.toList id ops.toList f S) (dr id ops f S) draw)
    (fun _ _ ia ib f S => match ia f S with
      | .normal f S => ib f S
      | r => r)
    (fun x _ _ ia ib f S => match aev f x with
      | some (.bool true) => ia f S
      | some (.bool false) => ib f S
      | _ => .no [20])
    (fun id _ ib f S => match ib f S with
      | .exit j f S => Bool.rec (.exit j f S) (.normal f S) (Nat.beq j id)
      | r => r)
    (fun body ib f S => match ib f S with
      | .normal f S => again (.loop body) f S
      | r => r)
    (fun g ps x y ia ib f S => rgo rf g ps.toList (noRF x && noRF y) ia ib f S)
    (fun id f S => .exit id f S)
    (fun _ ib f S => ib f S)
    (fun _ f S => .normal f S)
    (fun _ _ _ => .no [23])
    (fun f S => .ret f S)
    (fun _ _ _ => .no [24]) c

def CodeOk {K : Nat} (Z : Kept K) (P : Program) (run : Code → Fm → St → Res) : Prop :=
  ∀ c r n lo f S ρ a w Q, (r = none ∨ noRF c = true) → FR ρ f a → WR ρ S w → MkOk lo S ρ w a.defers → K ≤ S.next → Z.p S ρ w → RelQ K lo S ρ w Q (run c f S) → c.wpIn (wf r) n P Q a w

def DrawnOk {K : Nat} (Z : Kept K) (P : Program) (dr : Nat → Array Oper → Fm → St → Res) : Prop :=
  ∀ id ops r n lo f S ρ a w Q, FR ρ f a → WR ρ S w → MkOk lo S ρ w a.defers → K ≤ S.next → Z.p S ρ w → RelQ K lo S ρ w Q (dr id ops f S) → (Code.region id ops true).wpIn (wf r) n P Q a w

theorem RelQ.known {K lo : Nat} {S : St} {ρ : Rho} {w : World} {Q : Exit → Act → World → Prop} {r : Res} (h : RelQ K lo S ρ w Q r) : RelQ K lo S ρ w (fun e a w => Known e ∧ Q e a w) r := by
  cases r with
  | normal f S' => exact fun a' w' σ h1 h2 hm h3 h4 => ⟨.inl rfl, h a' w' σ h1 h2 hm h3 h4⟩
  | exit id f S' => exact fun a' w' σ h1 h2 hm h3 h4 => ⟨.inr (.inl ⟨id, rfl⟩), h a' w' σ h1 h2 hm h3 h4⟩
  | ret f S' => exact fun a' w' σ h1 h2 hm h3 h4 => ⟨.inr (.inr rfl), h a' w' σ h1 h2 hm h3 h4⟩
  | no w => exact h

/-! A loop's record, as one block that no live block of S is. -/
theorem WR.put {ρ : Rho} {S : St} {w : World} (h : WR ρ S w) {b : Nat} (hu : Unl S ρ b) (o : Obj) : WR ρ S (w.putObj b o) :=
  ⟨h.inj, h.dom, h.lim, fun i c n hi => by rw [World.putObj_size]; exact h.low i c n hi, fun i B hi => by
    obtain ⟨c, n, h1, h2⟩ := h.blk i B hi
    refine ⟨c, n, h1, ?_⟩
    by_cases hl : B.live = true
    · rw [World.putObj_heap_other (fun e => hu i n B hi hl (by rw [← e]; exact h1))]; exact h2
    · cases B with
      | dead => trivial
      | cells _ _ _ _ => exact absurd rfl hl
      | map _ _ => exact absurd rfl hl⟩
theorem Up.size_eq {K : Nat} {S S' : St} {ρ σ : Rho} {w w' : World} (h : Up K S S' ρ σ w) (e : w.heap.size = w'.heap.size) : Up K S S' ρ σ w' := ⟨h.le, h.next, h.old, h.keep, fun i b n A hA hl hr => by rw [← e]; exact h.new i b n A hA hl hr⟩
theorem Fr.unput {K : Nat} {S : St} {ρ : Rho} {w w' : World} {b : Nat} {o o' : Obj} (h : Fr K S ρ (w.putObj b o) w') (hw : w.heap[b]? = some o') : Fr K S ρ w (w'.putObj b o') := by
  have hb : b < w.heap.size := (Array.getElem?_eq_some_iff.1 hw).1
  have hs : w.heap.size ≤ w'.heap.size := by have := h.size; rwa [World.putObj_size] at this
  refine ⟨h.os, h.tape, h.output, by rw [World.putObj_size]; exact hs, fun c hc hn => ?_⟩
  by_cases e : c = b
  · subst e; rw [World.putObj_heap_same (by omega), hw]
  · rw [World.putObj_heap_other e, h.block c (by rw [World.putObj_size]; exact hc) hn, World.putObj_heap_other e]
theorem MkOk.put {lo : Nat} {S : St} {ρ : Rho} {w : World} {ds : List Deferred} (h : MkOk lo S ρ w ds) {b : Nat} {r : Loop} (hw : w.heap[b]? = some (.loop r)) (o : Obj) : MkOk lo S ρ (w.putObj b o) ds := by
  obtain ⟨h0, l, h1, h2, h3⟩ := h
  refine ⟨by rw [World.putObj_size]; exact h0, l, h1, h2, fun c hc => ?_⟩
  obtain ⟨g1, g2, g3, g4⟩ := h3 c hc
  refine ⟨g1, by rw [World.putObj_size]; exact g2, ?_, g4⟩
  rw [World.putObj_heap_other (fun e => by rw [e, hw] at g3; cases g3)]; exact g3

theorem setL_ok {ρ : Rho} : ∀ {ps : List Nat} {vs : List AV} {xs : List Value} {f f' : Fm} {t : Array Value} {ds ds' : List Deferred}, setL ps vs f = some f' → VRL ρ vs xs → FR ρ f { tmps := t, defers := ds } →
    xs.length = ps.length ∧ FR ρ f' { tmps := (ps.zip xs).foldl (fun t p => t.setIfInBounds p.1 p.2) t, defers := ds' }
  | [], [], xs, f, f', t, ds, ds', h, hv, hf => by
    have h : some f = some f' := h
    injection h with h; subst h
    simp only [VRL] at hv; subst hv
    exact ⟨rfl, rfl, hf.2⟩
  | [], _ :: _, _, _, _, _, _, _, h, _, _ => by cases h
  | _ :: _, [], _, _, _, _, _, _, h, _, _ => by cases h
  | p :: ps, v :: vs, xs, f, f', t, ds, ds', h, hv, hf => by
    have h : (Bool.rec none (setL ps vs ⟨f.t.to p v, f.n⟩) (Nat.blt p f.n && Nat.blt p 1048575) : Option Fm) = some f' := h
    simp only [VRL] at hv
    obtain ⟨y, ys, e, h1, h2⟩ := hv
    subst e
    cases hc : (Nat.blt p f.n && Nat.blt p 1048575) with
    | false => rw [hc] at h; cases h
    | true =>
      rw [hc] at h
      simp only [Bool.and_eq_true, Nat.blt_eq] at hc
      have h3 := hf.put (d := some p) (v := v) (x := y) (fun i hi => by injection hi with hi; subst hi; exact hc.1) (fun i hi => by injection hi with hi; subst hi; exact hc.2) h1
      obtain ⟨h4, h5⟩ := setL_ok (ds' := ds') h h2 (show FR ρ ⟨f.t.to p v, f.n⟩ { tmps := t.setIfInBounds p y, defers := ds } from h3)
      exact ⟨by simp [h4], by simpa using h5⟩

/-- What is kept while an iterator runs: the loop's record lies ready. -/
def Kept.loop {K : Nat} (Z : Kept K) (ρ₀ : Rho) (b : Nat) (rec : Loop) (hb : Z.base ≤ b) : Kept K where
  p := fun S ρ w => Z.p S ρ w ∧ ρ₀.le ρ ∧ w.heap[b]? = some (.loop rec) ∧ Unl S ρ b
  base := b + 1
  step := by
    rintro S S' ρ σ w w' ⟨h1, h2, h3, h4⟩ s
    have hlt : b < w.heap.size := (Array.getElem?_eq_some_iff.1 h3).1
    exact ⟨Z.step h1 s, Rho.le_trans h2 s.le, (s.block h4 hlt).trans h3, s.unl h4 hlt⟩
  put := by
    rintro S ρ w c o ⟨h1, h2, h3, h4⟩ hc
    exact ⟨Z.put c o h1 (by omega), h2, by rw [World.putObj_heap_other (by omega)]; exact h3, h4⟩
  size := by
    rintro S ρ w ⟨_, _, h3, _⟩
    exact (Array.getElem?_eq_some_iff.1 h3).1

theorem yl_ok {K : Nat} {Z : Kept K} {f : Fm} {ps : List Nat} {x y : Code} {ia ib : Fm → St → Res} {id : Nat} {ρ₀ : Rho} {b : Nat} {rec : Loop} {hb : Z.base ≤ b} {m : Nat} {t : Array Value} {ds : List Deferred}
    (hia : ∀ r n lo f S ρ a w Q, FR ρ f a → WR ρ S w → MkOk lo S ρ w a.defers → K ≤ S.next → Z.p S ρ w → RelQ K lo S ρ w Q (ia f S) → x.wpIn (wf r) n P Q a w)
    (hib : ∀ r n lo f S ρ a w Q, FR ρ f a → WR ρ S w → MkOk lo S ρ w a.defers → K ≤ S.next → Z.p S ρ w → RelQ K lo S ρ w Q (ib f S) → y.wpIn (wf r) n P Q a w)
    (hid : ρ₀ id = some (b, m)) (hf : FR ρ₀ f { tmps := t, defers := ds }) (h1 : rec.state = .ready) (h2 : rec.pending = none) (h3 : rec.tmps = t) (h4 : rec.params = ps.toArray) (h5 : rec.assign = x) (h6 : rec.body = y) :
    CallOk (Z.loop ρ₀ b rec hb) P (yl f ps ia ib id) := by
  intro g vs S v S' h ρ xs w hxs hw hK hz
  obtain ⟨z1, z2, z3, z4⟩ := hz
  unfold yl at h
  split at h
  · rename_i f' hg hs
    have hg := Nat.eq_of_beq_eq_true hg
    split at h
    · rename_i f1 S1 ha
      split at h
      · rename_i f2 S2 hbd
        injection h with e1 e2; subst e1; subst e2
        have hlt : b < w.heap.size := (Array.getElem?_eq_some_iff.1 z3).1
        obtain ⟨hl, hf'⟩ := setL_ok (ds' := []) hs hxs (hf.mono z2)
        refine .inr ⟨id, b, m, hg, z2 _ _ hid, rec.fn, _, rec.assign, rec.body, run_yield z3 (by rw [h4]; simp [hl]), ?_⟩
        refine roundIn_of_wpIn (F := Fence.wide) trivial ?_
        rw [h5, h6]
        have e4 : (rec.params.zip xs.toArray).foldl (fun tmps (x : Tmp × Value) => match x with | (t, a) => tmps.setIfInBounds t a) rec.tmps = (ps.zip xs).foldl (fun t p => t.setIfInBounds p.1 p.2) t := by
          rw [h3, h4, ← Array.foldl_toList]
          simp
        rw [e4]
        refine hia (some b) 0 w.heap.size f' S ρ _ w _ hf' hw MkOk.nil hK z1 ?_
        rw [ha]
        intro a1 w1 σ1 g1 g2 gm g3 g4
        have s1 := g3.stp g4
        have r1 : w1.heap[b]? = some (.loop rec) := (s1.block z4 hlt).trans z3
        have u1 := s1.unl z4 hlt
        have hlt1 : b < w1.heap.size := (Array.getElem?_eq_some_iff.1 r1).1
        refine ⟨_, run_beginRound r1 h1, ?_⟩
        refine hib (some b) 0 w.heap.size f1 S1 σ1 a1 _ _ g1 (g2.put u1 _) (gm.put r1 _) (Nat.le_trans hK g3.next) (Z.put b _ (Z.step z1 s1) hb) ?_
        rw [hbd]
        intro a2 w3 σ2 k1 k2 km k3 k4
        have s2 := k3.stp k4
        have u1' : Unl S1 σ1 b := u1
        have hlt2 : b < (w1.putObj b (.loop { rec with state := .busy })).heap.size := by rw [World.putObj_size]; exact hlt1
        have r3 : w3.heap[b]? = some (.loop { rec with state := .busy }) := (s2.block u1' hlt2).trans (World.putObj_heap_same hlt1)
        have u2 := s2.unl u1' hlt2
        refine ⟨_, _, run_endRound none r3, .bool true, σ2, rfl, by simp only [VR], k2.put u2 _, g3.trans g4.size (k3.size_eq (by rw [World.putObj_size])), ?_⟩
        have er : ({ ({ rec with state := .busy } : Loop) with state := if (none : Option Code).isNone = true then .ready else .done, pending := none } : Loop) = rec := by
          cases rec
          simp only at h1 h2
          subst h1; subst h2
          rfl
        rw [er]
        exact g4.trans g3 (k4.unput r1)
      · cases h
      · cases h
    · cases h
    · cases h
  · cases h

theorem rangeFunc_ok {K : Nat} {Z : Kept K} {rf : (FuncId → List AV → St → CRes) → FuncId → List AV → St → CRes} {ia ib : Fm → St → Res} {x y : Code}
    (hrf : ∀ (Z' : Kept K) h, (∀ S ρ w, Z'.p S ρ w → Z.p S ρ w) → CallOk Z' P h → CallOk Z' P (rf h))
    (hia : ∀ r n lo f S ρ a w Q, FR ρ f a → WR ρ S w → MkOk lo S ρ w a.defers → K ≤ S.next → Z.p S ρ w → RelQ K lo S ρ w Q (ia f S) → x.wpIn (wf r) n P Q a w)
    (hib : ∀ r n lo f S ρ a w Q, FR ρ f a → WR ρ S w → MkOk lo S ρ w a.defers → K ≤ S.next → Z.p S ρ w → RelQ K lo S ρ w Q (ib f S) → y.wpIn (wf r) n P Q a w)
    {g : Operand} {ps : Array Nat} {ok : Bool} {n lo : Nat} {f : Fm} {S : St} {ρ : Rho} {a : Act} {w : World} {Q : Exit → Act → World → Prop}
    (hf : FR ρ f a) (hw : WR ρ S w) (hm : MkOk lo S ρ w a.defers) (hK : K ≤ S.next) (hz : Z.p S ρ w) (h : RelQ K lo S ρ w Q (rgo rf g ps.toList ok ia ib f S)) : (Code.rangeFunc g ps x y).wpIn (wf none) n P Q a w := by
  unfold rgo at h
  split at h
  · rename_i gf cap hok hg
    simp only [Bool.and_eq_true, Nat.blt_eq] at hok
    have hlim := hok.2
    rw [fNat_eq] at h
    split at h
    · rename_i v S' hgf hrun
      rw [Nat.blt_eq] at hgf
      have hv := aev_ok hf hg
      simp only [VR] at hv
      obtain ⟨xs, e, hxs⟩ := hv
      refine wpIn_rangeFunc fun fn _ => ?_
      obtain ⟨rec, hrec⟩ : ∃ rec : Loop, rec = { state := .ready, pending := none, fn, tmps := a.tmps, params := ps, assign := x, body := y, defers := w.heap.size } := ⟨_, rfl⟩
      obtain ⟨W1, hW1⟩ : ∃ W1, (w.alloc (.deferred (some []))).alloc (.loop rec) = W1 := ⟨_, rfl⟩
      have hsz : W1.heap.size = w.heap.size + 2 := by rw [← hW1]; simp
      have hold : ∀ c, c < w.heap.size → W1.heap[c]? = w.heap[c]? := by
        intro c hc
        rw [← hW1]
        show ((w.heap.push _).push _)[c]? = _
        rw [Array.getElem?_push, if_neg (by simp; omega), Array.getElem?_push, if_neg (by omega)]
      have hD : W1.heap[w.heap.size]? = some (.deferred (some [])) := by
        rw [← hW1]
        show ((w.heap.push _).push _)[w.heap.size]? = _
        rw [Array.getElem?_push, if_neg (by simp), Array.getElem?_push, if_pos rfl]
      have hL : W1.heap[w.heap.size + 1]? = some (.loop rec) := by
        rw [← hW1]
        have := World.alloc_heap_new (w.alloc (.deferred (some []))) (.loop rec)
        simpa using this
      have hnone := (hw.dom S.next (Nat.le_refl _)).1
      have hnoneS := (hw.dom S.next (Nat.le_refl _)).2
      obtain ⟨ρ1, hρ1⟩ : ∃ ρ1, ρ.set S.next (w.heap.size + 1, 0) = ρ1 := ⟨_, rfl⟩
      have hset : ∀ i p, ρ1 i = some p → (i = S.next ∧ p = (w.heap.size + 1, 0)) ∨ (i ≠ S.next ∧ ρ i = some p) := by
        intro i p hi
        rw [← hρ1] at hi
        unfold Rho.set at hi
        by_cases e : i = S.next
        · rw [if_pos e] at hi; injection hi with hi; exact .inl ⟨e, hi.symm⟩
        · rw [if_neg e] at hi; exact .inr ⟨e, hi⟩
      have hle : ρ.le ρ1 := by rw [← hρ1]; exact Rho.le_set hnone
      have hy : ρ1 S.next = some (w.heap.size + 1, 0) := by rw [← hρ1]; exact Rho.set_same _ _ _
      have hF1 : Fr K S ρ w W1 := ⟨by rw [← hW1]; rfl, by rw [← hW1]; rfl, by rw [← hW1]; rfl, by omega, fun c hc _ => hold c hc⟩
      have hU1 : Up K S ⟨S.heap, S.next + 1⟩ ρ ρ1 w := by
        refine ⟨hle, Nat.le_succ _, fun i hi => ?_, fun i hi h0 => h0, fun i c m A hA hl hr => ?_⟩
        · have hi : i < S.next := hi
          rw [← hρ1]; unfold Rho.set; rw [if_neg (by omega)]
        · have hA : S.heap.at i = some A := hA
          rcases hset i _ hr with ⟨e1, _⟩ | ⟨_, hr⟩
          · subst e1; rw [hnoneS] at hA; cases hA
          · exact .inl ⟨hr, A, hA, hl⟩
      have hunl : ∀ c, w.heap.size ≤ c → Unl ⟨S.heap, S.next + 1⟩ ρ1 c := by
        intro c hc i m A hA hl hr
        have hA : S.heap.at i = some A := hA
        rcases hset i _ hr with ⟨e1, _⟩ | ⟨_, hr⟩
        · subst e1; rw [hnoneS] at hA; cases hA
        · have := hw.low i c m hr; omega
      have hW : WR ρ1 ⟨S.heap, S.next + 1⟩ W1 := by
        refine ⟨fun i j c m k A B hA hB hl hl' hri hrj => ?_, fun i hi => ?_, hlim, fun i c m hi => ?_, fun i B hB => ?_⟩
        · have hA : S.heap.at i = some A := hA
          have hB : S.heap.at j = some B := hB
          rcases hset i _ hri with ⟨e1, _⟩ | ⟨_, hri⟩
          · subst e1; rw [hnoneS] at hA; cases hA
          · rcases hset j _ hrj with ⟨e1, _⟩ | ⟨_, hrj⟩
            · subst e1; rw [hnoneS] at hB; cases hB
            · exact hw.inj i j c m k A B hA hB hl hl' hri hrj
        · have hi : S.next + 1 ≤ i := hi
          refine ⟨?_, (hw.dom i (by omega)).2⟩
          rw [← hρ1]; unfold Rho.set; rw [if_neg (by omega)]; exact (hw.dom i (by omega)).1
        · rcases hset i _ hi with ⟨_, e1⟩ | ⟨_, hi⟩
          · injection e1 with e1 e2; omega
          · have := hw.low i c m hi; omega
        · obtain ⟨c, m, h1, h2⟩ := hw.blk i B hB
          exact ⟨c, m, hle _ _ h1, by rw [hold c (hw.low i c m h1)]; exact BR.mono hle h2⟩
      have hbase : Z.base ≤ w.heap.size + 1 := by have := Z.size hz; omega
      have hz1 : (Z.loop ρ1 (w.heap.size + 1) rec hbase).p ⟨S.heap, S.next + 1⟩ ρ1 W1 := ⟨Z.step hz (hU1.stp hF1), Rho.le_refl _, hL, hunl _ (by omega)⟩
      have hyl : CallOk (Z.loop ρ1 (w.heap.size + 1) rec hbase) P (yl f ps.toList ia ib S.next) :=
        yl_ok (t := a.tmps) (ds := a.defers) hia hib hy (hf.mono hle) (by rw [hrec]) (by rw [hrec]) (by rw [hrec]) (by rw [hrec]) (by rw [hrec]) (by rw [hrec])
      have hcall := hrf (Z.loop ρ1 (w.heap.size + 1) rec hbase) _ (fun _ _ _ q => q.1) hyl gf (.yld S.next :: cap) ⟨S.heap, S.next + 1⟩ v S' hrun ρ1 (.func (.yield (w.heap.size + 1)) #[] #[] :: xs) W1
        (by simp only [VRL]; exact ⟨_, _, rfl, by simp only [VR]; exact ⟨_, _, hy, rfl⟩, VRL.mono hle _ _ hxs⟩) hW (Nat.le_succ_of_le hK) hz1
      rcases hcall with ⟨_, c1, c2⟩ | ⟨y', _, _, e', _⟩
      · refine ⟨w.heap.size + 1, [mark w.heap.size], W1, { target := .fn (.func gf) xs.toArray, args := #[.func (.yield (w.heap.size + 1)) #[] #[]] }, W1, gf, (.func (.yield (w.heap.size + 1)) #[] #[] :: xs).toArray, W1, ?_, ?_, fun _ _ => trivial, ?_, fun h => (by cases h), ?_⟩
        · show (Instr.enterLoop fn a.tmps ps x y none).run P w = _
          rw [run_enterLoop_outer, ← hW1, hrec]; rfl
        · simp only [resolve, e, Deferred.ofValue, Sem.run_pure]
          simp [Act.eval]
        · have := c1 W1
          simpa [invoke] using this
        · refine (callsIn_wide (n := n - 1)).2 (c2.mono ?_)
          rintro e3 w' ⟨u, σ, rfl, _, k1, k2, k3⟩
          have s := k2.stp k3
          have rl : w'.heap[w.heap.size + 1]? = some (.loop rec) := (s.block (hunl _ (by omega)) (by omega)).trans hL
          have ul := s.unl (hunl (w.heap.size + 1) (by omega)) (by omega)
          have rD : w'.heap[w.heap.size]? = some (.deferred (some [])) := (s.block (hunl _ (Nat.le_refl _)) (by omega)).trans hD
          have uD := s.unl (hunl w.heap.size (Nat.le_refl _)) (by omega)
          have hsw := k3.size
          refine ⟨none, _, by have := run_endLoop (P := P) rl (by rw [hrec]; simp); rw [hrec] at this; exact this, ?_⟩
          show Q .normal _ _
          have hup : Up K S S' ρ σ w := hU1.trans hF1.size k2
          have hfr := hF1.trans hU1 k3
          refine h _ _ σ ⟨rfl, hf.2.1, (hf.mono hup.le).2.2⟩ (k1.put ul _) ?_ hup ?_
          · obtain ⟨h0, l, h1, h2, h3⟩ := hm
            refine ⟨by rw [World.putObj_size]; omega, w.heap.size :: l, by rw [h1]; rfl, ?_, fun c hc => ?_⟩
            · rw [List.nodup_cons]
              exact ⟨fun hc => by have := (h3 _ hc).2.1; omega, h2⟩
            · have hne : c ≠ w.heap.size + 1 := by
                rcases List.mem_cons.1 hc with rfl | hc
                · omega
                · have := (h3 c hc).2.1; omega
              rw [World.putObj_size, World.putObj_heap_other hne]
              rcases List.mem_cons.1 hc with rfl | hc
              · exact ⟨h0, by omega, rD, uD⟩
              · obtain ⟨g1, g2, g3, g4⟩ := h3 c hc
                have s' := hup.stp hfr
                exact ⟨g1, by omega, (s'.block g4 g2).trans g3, s'.unl g4 g2⟩
          · exact ⟨hfr.os, hfr.tape, hfr.output, by rw [World.putObj_size]; exact hfr.size, fun c hc hn => by rw [World.putObj_heap_other (by omega)]; exact hfr.block c hc hn⟩
      · exact (fid_no hgf e').elim
    · exact h.elim
    · exact h.elim
  · exact h.elim

theorem exec1_ok {K : Nat} {Z : Kept K} {ext : FuncId → List AV → Option AV} {call : FuncId → List AV → St → CRes} {dr : Nat → Array Oper → Fm → St → Res} {again : Code → Fm → St → Res} {rf : (FuncId → List AV → St → CRes) → FuncId → List AV → St → CRes} (hext : ExtOk P ext) (hcall : CallOk Z P call)
    (hdr : DrawnOk Z P dr) (hag : CodeOk Z P again) (hrf : ∀ (Z' : Kept K) h, (∀ S ρ w, Z'.p S ρ w → Z.p S ρ w) → CallOk Z' P h → CallOk Z' P (rf h)) : CodeOk Z P (exec1 K P ext call dr again rf) := by
  intro c
  induction c with
  | skip => intro r n lo f S ρ a w Q _ hf hw hm hK hz h; exact wpIn_skip (h a w ρ hf hw hm (Up.refl K S ρ w) (Fr.refl K S ρ w))
  | region id ops draw =>
    intro r n lo f S ρ a w Q _ hf hw hm hK hz h
    cases draw with
    | false => exact wpIn_region_list (doOps_ok hext hcall ops.toList f S ρ a w hf hw hm hK hz h)
    | true => exact hdr id ops r n lo f S ρ a w Q hf hw hm hK hz h
  | seq x y ihx ihy =>
    intro r n lo f S ρ a w Q hn hf hw hm hK hz h
    have hnx : r = none ∨ noRF x = true := hn.imp id fun h => (Bool.and_eq_true _ _ ▸ (show (noRF x && noRF y) = true from h)).1
    have hny : r = none ∨ noRF y = true := hn.imp id fun h => (Bool.and_eq_true _ _ ▸ (show (noRF x && noRF y) = true from h)).2
    have h : RelQ K lo S ρ w Q (match exec1 K P ext call dr again rf x f S with
      | .normal f S => exec1 K P ext call dr again rf y f S
      | r => r) := h
    refine wpIn_seq (ihx r n lo f S ρ a w _ hnx hf hw hm hK hz ?_)
    cases hr : exec1 K P ext call dr again rf x f S with
    | normal f' S' =>
      rw [hr] at h
      intro a' w' σ h1 h2 hm' h3 h4
      exact ihy r n lo f' S' σ a' w' Q hny h1 h2 hm' (Nat.le_trans hK h3.next) (Z.step hz (h3.stp h4)) (h.step h3 h4)
    | exit id f' S' => rw [hr] at h; exact h
    | ret f' S' => rw [hr] at h; exact h
    | no why => rw [hr] at h; exact h
  | cond x y z ihy ihz =>
    intro r n lo f S ρ a w Q hn hf hw hm hK hz h
    have hny : r = none ∨ noRF y = true := hn.imp id fun h => (Bool.and_eq_true _ _ ▸ (show (noRF y && noRF z) = true from h)).1
    have hnz : r = none ∨ noRF z = true := hn.imp id fun h => (Bool.and_eq_true _ _ ▸ (show (noRF y && noRF z) = true from h)).2
    have h : RelQ K lo S ρ w Q (match aev f x with
      | some (.bool true) => exec1 K P ext call dr again rf y f S
      | some (.bool false) => exec1 K P ext call dr again rf z f S
      | _ => .no [20]) := h
    split at h
    · rename_i hx
      have := aev_ok hf hx; simp only [VR] at this
      exact wpIn_cond_true this (ihy r n lo f S ρ a w Q hny hf hw hm hK hz h)
    · rename_i hx
      have := aev_ok hf hx; simp only [VR] at this
      exact wpIn_cond_false this (ihz r n lo f S ρ a w Q hnz hf hw hm hK hz h)
    · exact h.elim
  | block id x ih =>
    intro r n lo f S ρ a w Q hn hf hw hm hK hz h
    have h : RelQ K lo S ρ w Q (match exec1 K P ext call dr again rf x f S with
      | .exit j f S => Bool.rec (.exit j f S) (.normal f S) (Nat.beq j id)
      | r => r) := h
    refine wpIn_block (ih r n lo f S ρ a w _ hn hf hw hm hK hz ?_)
    cases hr : exec1 K P ext call dr again rf x f S with
    | normal f' S' => rw [hr] at h; exact h
    | exit j f' S' =>
      rw [hr] at h
      intro a' w' σ h1 h2 hm' h3 h4
      show if j = id then Q .normal a' w' else Q (.exit j) a' w'
      by_cases hj : j = id
      · rw [if_pos hj]
        have h : RelQ K lo S ρ w Q (Bool.rec (.exit j f' S') (.normal f' S') (Nat.beq j id)) := h
        rw [beq_t hj] at h
        exact h a' w' σ h1 h2 hm' h3 h4
      · rw [if_neg hj]
        have h : RelQ K lo S ρ w Q (Bool.rec (.exit j f' S') (.normal f' S') (Nat.beq j id)) := h
        rw [beq_f hj] at h
        exact h a' w' σ h1 h2 hm' h3 h4
    | ret f' S' => rw [hr] at h; exact h
    | no why => rw [hr] at h; exact h
  | loop x ih =>
    intro r n lo f S ρ a w Q hn hf hw hm hK hz h
    have h := h.known
    refine wpIn_mono (Q := fun e a w => Known e ∧ Q e a w) (wp_unroll (fun e a w q => q.1) ?_) (fun e a w q => q.2)
    have h : RelQ K lo S ρ w (fun e a w => Known e ∧ Q e a w) (match exec1 K P ext call dr again rf x f S with
      | .normal f S => again (.loop x) f S
      | r => r) := h
    refine ih r n lo f S ρ a w _ hn hf hw hm hK hz ?_
    cases hr : exec1 K P ext call dr again rf x f S with
    | normal f' S' =>
      rw [hr] at h
      intro a' w' σ h1 h2 hm' h3 h4
      exact hag (.loop x) r n lo f' S' σ a' w' _ hn h1 h2 hm' (Nat.le_trans hK h3.next) (Z.step hz (h3.stp h4)) (h.step h3 h4)
    | exit id f' S' => rw [hr] at h; exact h
    | ret f' S' => rw [hr] at h; exact h
    | no why => rw [hr] at h; exact h
  | rangeFunc g ps x y ihx ihy =>
    intro r n lo f S ρ a w Q hn hf hw hm hK hz h
    have hr : r = none := hn.resolve_right (by intro h; cases h)
    subst hr
    have h : RelQ K lo S ρ w Q (rgo rf g ps.toList (noRF x && noRF y) (exec1 K P ext call dr again rf x) (exec1 K P ext call dr again rf y) f S) := h
    cases hnr : (noRF x && noRF y) with
    | false => rw [hnr] at h; unfold rgo at h; exact h.elim
    | true =>
      have hnr' := hnr
      rw [Bool.and_eq_true] at hnr'
      exact rangeFunc_ok hrf (fun r n lo f S ρ a w Q => ihx r n lo f S ρ a w Q (.inr hnr'.1)) (fun r n lo f S ρ a w Q => ihy r n lo f S ρ a w Q (.inr hnr'.2)) hf hw hm hK hz h
  | exit id => intro r n lo f S ρ a w Q _ hf hw hm hK hz h; exact wpIn_exit (h a w ρ hf hw hm (Up.refl K S ρ w) (Fr.refl K S ρ w))
  | scope body ih =>
    intro r n lo f S ρ a w Q hn hf hw hm hK hz h
    have h : RelQ K lo S ρ w Q (exec1 K P ext call dr again rf body f S) := h
    refine wpIn_scope_straight (ih r n lo f S ρ a w _ hn hf hw hm hK hz ?_)
    cases hr : exec1 K P ext call dr again rf body f S with
    | normal f' S' => rw [hr] at h; exact h
    | exit id f' S' => rw [hr] at h; exact h
    | ret f' S' => rw [hr] at h; exact h
    | no why => rw [hr] at h; exact h
  | label l => intro r n lo f S ρ a w Q _ hf hw hm hK hz h; exact wpIn_label (h a w ρ hf hw hm (Up.refl K S ρ w) (Fr.refl K S ρ w))
  | goto l => intro r n lo f S ρ a w Q _ hf hw hm hK hz h; exact h.elim
  | ret => intro r n lo f S ρ a w Q _ hf hw hm hK hz h; exact wpIn_ret (h a w ρ hf hw hm (Up.refl K S ρ w) (Fr.refl K S ρ w))
  | refuse why => intro r n lo f S ρ a w Q _ hf hw hm hK hz h; exact h.elim

/-- One result. -/
def resRun (tmps : Array Value) : ResultVar → Sem Value
  | .tmp t => pure (tmps.getD t undef)
  | .cell a t => do loadVar t (← asAddr (tmps.getD a undef))
theorem results_eq (fn : Func) (tmps : Array Value) : results fn tmps = (do
    let vs ← fn.results.mapM (resRun tmps)
    pure (if h : vs.size = 1 then vs[0] else .tuple vs) : Sem Value) := by
  have : (fun x => match x with | .tmp t => pure (tmps.getD t undef) | .cell a t => do loadVar t (← asAddr (tmps.getD a undef)) : ResultVar → Sem Value) = resRun tmps := by
    funext r; cases r <;> rfl
  unfold results
  rw [← this]
  rfl

theorem results_ok {fn : Func} {f : Fm} {S : St} {v : AV} {ρ : Rho} {a : Act} {w : World} (h : aRes P fn f S = some v) (hf : FR ρ f a) (hw : WR ρ S w) : ∃ x, (results fn a.tmps).run P w = .ok x w ∧ VR ρ v x := by
  have one : ∀ (l : List ResultVar) (vs : List AV), mapO (resOf P f S) l = some vs → ∃ xs, VRL ρ vs xs ∧ (l.mapM (resRun a.tmps)).run P w = .ok xs w := by
    intro l
    induction l with
    | nil => intro vs h; have h : some [] = some vs := h; injection h with h; subst h; exact ⟨[], by simp [VRL], rfl⟩
    | cons r l ih =>
      intro vs h
      obtain ⟨y, ys, h1, h2, h3⟩ := mapO_cons h
      subst h3
      obtain ⟨xs, hxs, hrun⟩ := ih ys h2
      have hr : ∃ x, VR ρ y x ∧ (resRun a.tmps r).run P w = .ok x w := by
        cases r with
        | tmp t =>
          obtain ⟨x, hx, hv⟩ := hf.2.2 t y h1
          exact ⟨x, hv, by simp [resRun, Array.getD_eq_getD_getElem?, hx]⟩
        | cell a' t =>
          have h1 : (match f.t.at a' with | some p => aLoad P S t p | none => none) = some y := h1
          split at h1
          · rename_i p hp
            obtain ⟨x, hx, hv⟩ := hf.2.2 a' p hp
            obtain ⟨z, hz1, hz2⟩ := aLoad_ok h1 hw hv
            refine ⟨z, hz2, ?_⟩
            have e : a.tmps.getD a' undef = x := by simp [Array.getD_eq_getD_getElem?, hx]
            simp only [resRun, e]
            cases p
            case ptr id off =>
              simp only [VR] at hv
              obtain ⟨b, n, _, e2⟩ := hv; subst e2
              simpa [asAddr, Instr.loadAt, Instr.sureAddr] using hz1
            all_goals (unfold aLoad at h1; simp at h1)
          · cases h1
      obtain ⟨x, hx, hrx⟩ := hr
      refine ⟨x :: xs, by simp only [VRL]; exact ⟨x, xs, rfl, hx, hxs⟩, ?_⟩
      simp only [List.mapM_cons, Sem.run_bind, hrx, Result.andThen_ok, hrun, Sem.run_pure]
  unfold aRes at h
  have fin : ∀ vs xs, mapO (resOf P f S) fn.results.toList = some vs → VRL ρ vs xs → (fn.results.toList.mapM (resRun a.tmps)).run P w = .ok xs w →
      (results fn a.tmps).run P w = .ok (if h : xs.toArray.size = 1 then xs.toArray[0] else .tuple xs.toArray) w := by
    intro vs xs _ _ hr
    rw [results_eq]
    simp only [Array.mapM_eq_mapM_toList, Sem.run_bind]
    simp only [Functor.map, Sem.run_bind', hr]
    rfl
  split at h
  · rename_i u hu
    injection h with h; subst h
    obtain ⟨xs, h1, h2⟩ := one _ _ hu
    have := fin _ _ hu h1 h2
    simp only [VRL] at h1
    obtain ⟨x, r, e, hx, e2⟩ := h1
    subst e2; subst e
    exact ⟨x, by simpa using this, hx⟩
  · rename_i vs hne hu
    injection h with h; subst h
    obtain ⟨xs, h1, h2⟩ := one _ _ hu
    have := fin _ _ hu h1 h2
    have hl := h1.length
    have hn : ¬ xs.toArray.size = 1 := by
      intro h0
      have : vs.length = 1 := by rw [← hl]; simpa using h0
      match vs, this with
      | [z], _ => exact hne z rfl
    rw [dif_neg hn] at this
    exact ⟨_, this, by simp only [VR]; exact ⟨xs, rfl, h1⟩⟩
  · cases h

end Ex
end Go.Proofs.YtdkijcmhjeaofaaGreatDoor
namespace Go.Proofs.YtdkijcmhjeaofaaGreatDoor
namespace Ex

variable {P : Program}

/-- The way out past the marks: each block is shut. -/
theorem leaves_marks {K : Nat} {S₀ S' : St} {ρ₀ σ : Rho} {w₀ : World} {fn : Func} {tmps : Array Value} {R : Ending → World → Prop}
    (hres : ∀ w, WR σ S' w → Fr K S₀ ρ₀ w₀ w → ∃ x, (results fn tmps).run P w = .ok x w ∧ R (.returned x) w) :
    ∀ (l : List Nat) (w : World), l.Nodup → (∀ b ∈ l, w₀.heap.size ≤ b ∧ b < w.heap.size ∧ w.heap[b]? = some (.deferred (some [])) ∧ Unl S' σ b) → WR σ S' w → Fr K S₀ ρ₀ w₀ w → LeavesInM Fence.wide 0 P fn tmps R (l.map mark) .returning w
  | [], w, _, _, hw, hf => hres w hw hf
  | b :: l, w, hn, hl, hw, hf => by
    rw [List.nodup_cons] at hn
    obtain ⟨g1, g2, g3, g4⟩ := hl b (by simp)
    refine ⟨by simp, .inl ⟨b, _, rfl, run_takeDeferred g3, ?_⟩⟩
    refine leaves_marks hres l _ hn.2 (fun c hc => ?_) (hw.put g4 _) ⟨hf.os, hf.tape, hf.output, by rw [World.putObj_size]; exact hf.size, fun c hc hx => by rw [World.putObj_heap_other (by omega)]; exact hf.block c hc hx⟩
    obtain ⟨k1, k2, k3, k4⟩ := hl c (List.mem_cons_of_mem _ hc)
    exact ⟨k1, by rw [World.putObj_size]; exact k2, by rw [World.putObj_heap_other (fun e => hn.1 (by rw [← e]; exact hc))]; exact k3, k4⟩

theorem callB_ok {K : Nat} {Z : Kept K} {run : Code → Fm → St → Res} (hrun : CodeOk Z P run) : CallOk Z P (callB P run) := by
  intro g vs S v S' h ρ xs w hxs hw hK hz
  unfold callB at h
  split at h
  · cases h
  · rename_i fn hfn
    split at h
    · rename_i c hname hbody
      split at h
      · rename_i hc
        simp only [Bool.and_eq_true] at hc
        have hlen : vs.length ≤ fn.ntmps := Nat.le_of_ble_eq_true hc.1
        have hn : fn.ntmps < 1048575 := by have := hc.2.1; rwa [Nat.blt_eq] at this
        have hg : g < 1048576 := by have := hc.2.2; rwa [Nat.blt_eq] at this
        have hxl := hxs.length
        have hcf : ∀ w₀, (callFunc g xs.toArray).run P w₀ = .ok (.enter g xs.toArray) w₀ := by
          intro w₀
          simp only [callFunc, Sem.run_bind, run_program, Result.andThen_ok, hfn, hname, hbody, Option.isNone_some, Bool.false_eq_true, if_false, Sem.run_pure]
        refine .inl ⟨hg, hcf, (callsIn_wide (n := 0)).1 (callsIn_of_wp_marks hfn hbody trivial ?_)⟩
        have hfr : FR ρ ⟨wr vs .e 0, fn.ntmps⟩ { tmps := xs.toArray ++ Array.replicate (fn.ntmps - xs.toArray.size) undef, defers := [] } := by
          refine ⟨rfl, by simp; omega, fun i u hi => ?_⟩
          have hi : (wr vs .e 0).at i = some u := hi
          rw [wr_at _ _ _ _ (by omega)] at hi
          by_cases hin : 0 ≤ i ∧ i < 0 + vs.length
          · rw [if_pos hin] at hi
            obtain ⟨x, hx, hv⟩ := hxs.get _ u hi
            refine ⟨x, ?_, hv⟩
            rw [Array.getElem?_append_left (by simp; omega)]
            simpa using hx
          · rw [if_neg hin, Tr.at_e] at hi; cases hi
        refine hrun c none 0 w.heap.size _ S ρ _ w _ (.inl rfl) hfr hw MkOk.nil hK hz ?_
        cases hr : run c ⟨wr vs .e 0, fn.ntmps⟩ S with
        | normal f1 S1 =>
          rw [hr] at h
          intro a' w' σ h1 h2 hm h3 h4
          simp only [fin] at h
          split at h
          · rename_i u hu
            injection h with e1 e2; subst e1; subst e2
            obtain ⟨_, l, hl1, hl2, hl3⟩ := hm
            show LeavesInM Fence.wide 0 P fn a'.tmps _ a'.defers .returning w'
            rw [hl1]
            refine leaves_marks (fun w2 k1 k2 => ?_) l w' hl2 hl3 h2 h4
            obtain ⟨x, hx1, hx2⟩ := results_ok hu h1 k1
            exact ⟨x, hx1, x, σ, rfl, hx2, k1, h3, k2⟩
          · cases h
        | ret f1 S1 =>
          rw [hr] at h
          intro a' w' σ h1 h2 hm h3 h4
          simp only [fin] at h
          split at h
          · rename_i u hu
            injection h with e1 e2; subst e1; subst e2
            obtain ⟨_, l, hl1, hl2, hl3⟩ := hm
            show LeavesInM Fence.wide 0 P fn a'.tmps _ a'.defers .returning w'
            rw [hl1]
            refine leaves_marks (fun w2 k1 k2 => ?_) l w' hl2 hl3 h2 h4
            obtain ⟨x, hx1, hx2⟩ := results_ok hu h1 k1
            exact ⟨x, hx1, x, σ, rfl, hx2, k1, h3, k2⟩
          · cases h
        | exit id f1 S1 => rw [hr] at h; cases h
        | no why => rw [hr] at h; cases h
      · cases h
    · cases h

/-- A call that is known, or one that is run. -/
noncomputable def orCall (xt call : FuncId → List AV → St → CRes) : FuncId → List AV → St → CRes := fun g vs S => match xt g vs S with
  | .ok v S => .ok v S
  | .no w => Bool.rec (.no w) (call g vs S) (Nat.blt g 1048576)
theorem orCall_ok {K : Nat} {Z : Kept K} {xt call : FuncId → List AV → St → CRes} (hx : CallOk Z P xt) (hc : CallOk Z P call) : CallOk Z P (orCall xt call) := by
  intro g vs S v S' h
  unfold orCall at h
  split at h
  · rename_i u T hu
    injection h with e1 e2; subst e1; subst e2
    exact hx g vs S u T hu
  · cases hb : Nat.blt g 1048576 with
    | false => rw [hb] at h; cases h
    | true => rw [hb] at h; exact hc g vs S v S' h
theorem CallOk.sub {K : Nat} {Z Z' : Kept K} {call : FuncId → List AV → St → CRes} (h : CallOk Z P call) (hz : ∀ S ρ w, Z'.p S ρ w → Z.p S ρ w) : CallOk Z' P call :=
  fun g vs S v S' hc ρ xs w hxs hw hK hp => h g vs S v S' hc ρ xs w hxs hw hK (hz _ _ _ hp)
/-- Yield's calls, and the others. -/
noncomputable def orY (y xt : FuncId → List AV → St → CRes) : FuncId → List AV → St → CRes := fun g vs S => Bool.rec (y g vs S) (xt g vs S) (Nat.blt g 1048576)
theorem orY_ok {K : Nat} {Z : Kept K} {y xt : FuncId → List AV → St → CRes} (hy : CallOk Z P y) (hx : CallOk Z P xt) : CallOk Z P (orY y xt) := by
  intro g vs S v S' h
  unfold orY at h
  cases hb : Nat.blt g 1048576 with
  | false => rw [hb] at h; exact hy g vs S v S' h
  | true => rw [hb] at h; exact hx g vs S v S' h
/-- No call is known. -/
def xtZ : FuncId → List AV → St → CRes := fun _ _ _ => .no []
theorem xtZ_ok {K : Nat} {Z : Kept K} : CallOk Z P xtZ := fun _ _ _ _ _ h => by cases h
/-- The executor, with a way to go through regions that draw their order, by the calls that are known. -/
noncomputable def execX (K : Nat) (P : Program) (ext : FuncId → List AV → Option AV) (dr : (FuncId → List AV → St → CRes) → Nat → Array Oper → Fm → St → Res) (n : Nat) : (FuncId → List AV → St → CRes) → Code → Fm → St → Res :=
  Nat.rec (motive := fun _ => (FuncId → List AV → St → CRes) → Code → Fm → St → Res) (fun _ _ _ _ => .no [40])
    (fun _ ih xt c f S => exec1 K P ext (orCall xt (callB P (ih xt))) (dr (orCall xt (callB P (ih xt)))) (ih xt) (fun h => callB P (ih (orY h xt))) c f S) n
noncomputable def exec (K : Nat) (P : Program) (ext : FuncId → List AV → Option AV) (xt : FuncId → List AV → St → CRes) (dr : (FuncId → List AV → St → CRes) → Nat → Array Oper → Fm → St → Res) (n : Nat) : Code → Fm → St → Res := execX K P ext dr n xt

theorem exec_ok {K : Nat} (Z₀ : Kept K) {ext : FuncId → List AV → Option AV} {dr : (FuncId → List AV → St → CRes) → Nat → Array Oper → Fm → St → Res} (hext : ExtOk P ext) (hdr : ∀ (Z : Kept K) call, (∀ S ρ w, Z.p S ρ w → Z₀.p S ρ w) → CallOk Z P call → DrawnOk Z P (dr call)) :
    ∀ n (Z : Kept K) xt, (∀ S ρ w, Z.p S ρ w → Z₀.p S ρ w) → CallOk Z P xt → CodeOk Z P (exec K P ext xt dr n) := by
  intro n
  induction n with
  | zero => intro Z xt _ _ c r n lo f S ρ a w Q _ _ _ _ _ _ h; exact h.elim
  | succ n ih =>
    intro Z xt hs hxt
    have hc := orCall_ok hxt (callB_ok (ih Z xt hs hxt))
    exact exec1_ok hext hc (hdr Z _ hs hc) (ih Z xt hs hxt) fun Z' h hz hh => callB_ok (ih Z' _ (fun S ρ w q => hs S ρ w (hz S ρ w q)) (orY_ok hh (hxt.sub hz)))

noncomputable def run (K : Nat) (P : Program) (ext : FuncId → List AV → Option AV) (xt : FuncId → List AV → St → CRes) (dr : (FuncId → List AV → St → CRes) → Nat → Array Oper → Fm → St → Res) (n : Nat) (g : FuncId) (vs : List AV) (S : St) : CRes := callB P (exec K P ext xt dr n) g vs S

theorem run_ok {K : Nat} {Z : Kept K} {ext : FuncId → List AV → Option AV} {xt : FuncId → List AV → St → CRes} {dr : (FuncId → List AV → St → CRes) → Nat → Array Oper → Fm → St → Res} (hext : ExtOk P ext) (hxt : CallOk Z P xt) (hdr : ∀ (Z' : Kept K) call, (∀ S ρ w, Z'.p S ρ w → Z.p S ρ w) → CallOk Z' P call → DrawnOk Z' P (dr call)) (n : Nat) :
    CallOk Z P (run K P ext xt dr n) := callB_ok (exec_ok Z hext hdr n Z xt (fun _ _ _ q => q) hxt)

end Ex
end Go.Proofs.YtdkijcmhjeaofaaGreatDoor
namespace Go.Proofs.YtdkijcmhjeaofaaGreatDoor
namespace Ex

variable {P : Program}

/-- Which operations a listing has. -/
def Lst (listed : Array Bool) (i : Nat) : Prop := listed.getD i false = true

/-- How many are left. -/
def leftOf (n : Nat) (listed : Array Bool) : Nat := ((List.range n).filter fun i => !listed.getD i true).length

theorem leftOf_set {n i : Nat} {listed : Array Bool} (hn : listed.size = n) (hi : i < n) (h0 : listed.getD i true = false) : leftOf n (listed.setIfInBounds i true) + 1 ≤ leftOf n listed := by
  unfold leftOf
  have hsub : ∀ (l : List Nat), l.Nodup → i ∈ l → ((l.filter fun j => !(listed.setIfInBounds i true).getD j true).length + 1 ≤ (l.filter fun j => !listed.getD j true).length) := by
    intro l
    have hget : ∀ j, (listed.setIfInBounds i true).getD j true = if j = i then true else listed.getD j true := by
      intro j
      by_cases e : j = i
      · subst e; simp [Array.getD_eq_getD_getElem?, hn, hi]
      · simp [Array.getD_eq_getD_getElem?, Ne.symm e, e]
    induction l with
    | nil => intro _ h; simp at h
    | cons x l ih =>
      intro hnd hm
      rw [List.nodup_cons] at hnd
      by_cases hx : x = i
      · subst hx
        have hrest : (l.filter fun j => !(listed.setIfInBounds x true).getD j true) = l.filter fun j => !listed.getD j true := by
          apply List.filter_congr
          intro j hj
          rw [hget, if_neg (fun e : j = x => hnd.1 (e ▸ hj))]
        have e1 : (!(listed.setIfInBounds x true).getD x true) = false := by rw [hget, if_pos rfl]; rfl
        have e2 : (!listed.getD x true) = true := by rw [h0]; rfl
        rw [List.filter_cons, List.filter_cons, e1, e2, hrest]
        simp
      · have hm : i ∈ l := by rcases List.mem_cons.1 hm with h | h; exact absurd h.symm hx; exact h
        have := ih hnd.2 hm
        simp only [List.filter_cons, hget, if_neg hx]
        split <;> simp_all
  exact hsub _ List.nodup_range (List.mem_range.2 hi)

/-- An invariant over what is listed serves every order. -/
theorem wpAny_of_inv {F : Fence} {n : Nat} {ops : Array Oper} {Q : Exit → Act → World → Prop} (I : Array Bool → Act → World → Prop)
    (hend : ∀ listed a w, I listed a w → Region.ready .any ops listed = [] → Q .normal a w)
    (hstep : ∀ listed a w i, I listed a w → i ∈ Region.ready .any ops listed → wpOpIn F n P ops Q i (I (listed.setIfInBounds i true)) a w)
    (hsize : ∀ listed a w, I listed a w → listed.size = ops.size) :
    ∀ fuel listed a w, leftOf ops.size listed ≤ fuel → I listed a w → wpAnyIn F n P .any ops Q fuel listed a w := by
  intro fuel
  induction fuel with
  | zero =>
    intro listed a w hl hI
    have hr : Region.ready .any ops listed = [] := by
      unfold Region.ready
      rw [List.filter_eq_nil_iff]
      intro i hi h
      have h0 : leftOf ops.size listed = 0 := Nat.le_zero.1 hl
      unfold leftOf at h0
      rw [List.length_eq_zero_iff, List.filter_eq_nil_iff] at h0
      simp only [Bool.and_eq_true] at h
      exact h0 i hi h.1
    exact ⟨hr, hend _ _ _ hI hr⟩
  | succ fuel ih =>
    intro listed a w hl hI
    refine ⟨hend _ _ _ hI, fun i hi => ?_⟩
    have hs := hsize _ _ _ hI
    have hi' := mem_ready.1 hi
    refine wpOpIn_mono (fun a' w' h => ih _ a' w' ?_ h) (hstep listed a w i hI hi)
    have h1 : i < ops.size := by
      unfold Region.ready at hi
      exact List.mem_range.1 (List.mem_filter.1 hi).1
    have h2 : listed.getD i true = false := by
      unfold Region.ready at hi
      have := (List.mem_filter.1 hi).2
      simp only [Bool.and_eq_true, Bool.not_eq_true'] at this
      exact this.1
    have := leftOf_set hs h1 h2
    omega

/-! Memory of which less is known, or which is told otherwise. -/
theorem WR.sub {ρ : Rho} {S T : St} {w : World} (h : WR ρ S w) (hs : ∀ i A, T.heap.at i = some A → S.heap.at i = some A) (hn : T.next = S.next) : WR ρ T w := by
  refine ⟨fun i j b m n A B hA hB => h.inj i j b m n A B (hs i A hA) (hs j B hB), fun i hi => ?_, by rw [hn]; exact h.lim, h.low, fun i B hB => h.blk i B (hs i B hB)⟩
  rw [hn] at hi
  refine ⟨(h.dom i hi).1, ?_⟩
  cases ht : T.heap.at i with
  | none => rfl
  | some A => have := hs i A ht; rw [(h.dom i hi).2] at this; cases this

/-- A block that lies there is told. -/
theorem WR.tell {ρ : Rho} {S T : St} {w : World} (h : WR ρ S w) {id b n : Nat} {B : AB} (hid : id < S.next) (hr : ρ id = some (b, n)) (hB : BR ρ n B w.heap[b]?)
    (hfree : ∀ j m A, j ≠ id → S.heap.at j = some A → A.live = true → ρ j ≠ some (b, m)) (hT : ∀ i, T.heap.at i = if i = id then some B else S.heap.at i) (hn : T.next = S.next) : WR ρ T w := by
  have hat : ∀ i A, T.heap.at i = some A → (i = id ∧ A = B) ∨ (i ≠ id ∧ S.heap.at i = some A) := by
    intro i A hi
    rw [hT] at hi
    by_cases e : i = id
    · rw [if_pos e] at hi; injection hi with hi; exact .inl ⟨e, hi.symm⟩
    · rw [if_neg e] at hi; exact .inr ⟨e, hi⟩
  refine ⟨fun i j c m k A C hi hj hA hC hri hrj => ?_, fun i hi => ?_, by rw [hn]; exact h.lim, h.low, fun i A hi => ?_⟩
  · rcases hat i A hi with ⟨e1, p1⟩ | ⟨e1, p1⟩ <;> rcases hat j C hj with ⟨e2, p2⟩ | ⟨e2, p2⟩
    · rw [e1, e2]
    · subst e1; rw [hr] at hri; injection hri with hri; injection hri with q1 q2; subst q1
      exact absurd hrj (hfree j k C e2 p2 hC)
    · subst e2; rw [hr] at hrj; injection hrj with hrj; injection hrj with q1 q2; subst q1
      exact absurd hri (hfree i m A e1 p1 hA)
    · exact h.inj i j c m k A C p1 p2 hA hC hri hrj
  · rw [hn] at hi
    refine ⟨(h.dom i hi).1, ?_⟩
    rw [hT, if_neg (by omega)]; exact (h.dom i hi).2
  · rcases hat i A hi with ⟨e, e2⟩ | ⟨_, e2⟩
    · subst e; subst e2; exact ⟨b, n, hr, hB⟩
    · exact h.blk i A e2

/-! Ancestors. -/
def preds (o : Oper) : List Nat := (o.after.toList.filter fun e => Region.binds .any e).map (·.on)

inductive Anc (ops : Array Oper) : Nat → Nat → Prop
  | one {i j : Nat} {o : Oper} : ops[i]? = some o → j ∈ preds o → Anc ops i j
  | more {i j k : Nat} {o : Oper} : ops[i]? = some o → j ∈ preds o → Anc ops j k → Anc ops i k

noncomputable def isAnc (ops : List Oper) (n : Nat) : Nat → Nat → Bool :=
  Nat.rec (motive := fun _ => Nat → Nat → Bool) (fun _ _ => false)
    (fun _ ih i k => match ops[i]? with
      | none => false
      | some o => (preds o).any fun j => Nat.beq j k || ih j k) n
theorem isAnc_ok {ops : Array Oper} : ∀ {n i k : Nat}, isAnc ops.toList n i k = true → Anc ops i k
  | 0, _, _, h => by cases h
  | n + 1, i, k, h => by
    have h : (match ops.toList[i]? with
      | none => false
      | some o => (preds o).any fun j => Nat.beq j k || isAnc ops.toList n j k) = true := h
    split at h
    · cases h
    · rename_i o ho
      have ho : ops[i]? = some o := by simpa using ho
      rw [List.any_eq_true] at h
      obtain ⟨j, hj, h⟩ := h
      rw [Bool.or_eq_true] at h
      rcases h with h | h
      · have := Nat.eq_of_beq_eq_true h; subst this; exact .one ho hj
      · exact .more ho hj (isAnc_ok h)

/-- What is listed is listed with all before it. -/
def Down (ops : Array Oper) (listed : Array Bool) : Prop := ∀ i o j, ops[i]? = some o → Lst listed i → j ∈ preds o → Lst listed j

theorem Anc.lst {ops : Array Oper} {listed : Array Bool} (hd : Down ops listed) {i k : Nat} (h : Anc ops i k) : Lst listed i → Lst listed k := by
  induction h with
  | one ho hj => exact fun hl => hd _ _ _ ho hl hj
  | more ho hj _ ih => exact fun hl => ih (hd _ _ _ ho hl hj)

theorem ready_preds {ops : Array Oper} {listed : Array Bool} {i : Nat} {o : Oper} (h : i ∈ Region.ready .any ops listed) (ho : ops[i]? = some o) : ∀ j ∈ preds o, Lst listed j := by
  intro j hj
  unfold Region.ready at h
  have h := (List.mem_filter.1 h).2
  simp only [ho, Option.map_some, Option.getD_some, Bool.and_eq_true] at h
  have h := h.2
  rw [Array.all_eq_true_iff_forall_mem] at h
  unfold preds at hj
  simp only [List.mem_map, List.mem_filter] at hj
  obtain ⟨e, ⟨he, hb⟩, rfl⟩ := hj
  have := h e (by simpa using he)
  rw [hb] at this
  simpa [Lst] using this

theorem ready_anc {ops : Array Oper} {listed : Array Bool} (hd : Down ops listed) {i k : Nat} (h : i ∈ Region.ready .any ops listed) (ha : Anc ops i k) : Lst listed k := by
  cases ha with
  | one ho hj => exact ready_preds h ho _ hj
  | more ho hj ha => exact ha.lst hd (ready_preds h ho _ hj)

end Ex
end Go.Proofs.YtdkijcmhjeaofaaGreatDoor
namespace Go.Proofs.YtdkijcmhjeaofaaGreatDoor
namespace Ex

variable {P : Program}

/-- The world holds what a heap tells, the heap as a function. -/
structure WRf (ρ : Rho) (H : Nat → Option AB) (nx : Nat) (w : World) : Prop where
  inj : ∀ i j b m n A B, H i = some A → H j = some B → A.live = true → B.live = true → ρ i = some (b, m) → ρ j = some (b, n) → i = j
  dom : ∀ i, nx ≤ i → ρ i = none ∧ H i = none
  lim : nx < 1048575
  low : ∀ i b n, ρ i = some (b, n) → b < w.heap.size
  blk : ∀ i B, H i = some B → ∃ b n, ρ i = some (b, n) ∧ BR ρ n B w.heap[b]?

theorem WR.f {ρ : Rho} {S : St} {w : World} (h : WR ρ S w) : WRf ρ S.heap.at S.next w := ⟨h.inj, h.dom, h.lim, h.low, h.blk⟩
theorem WRf.tr {ρ : Rho} {H : Nat → Option AB} {nx : Nat} {w : World} (h : WRf ρ H nx w) {T : St} (hs : ∀ i A, T.heap.at i = some A → H i = some A) (hn : T.next = nx) : WR ρ T w := by
  refine ⟨fun i j b m n A B hA hB => h.inj i j b m n A B (hs i A hA) (hs j B hB), fun i hi => ?_, by rw [hn]; exact h.lim, h.low, fun i B hB => h.blk i B (hs i B hB)⟩
  rw [hn] at hi
  refine ⟨(h.dom i hi).1, ?_⟩
  cases ht : T.heap.at i with
  | none => rfl
  | some A => have := hs i A ht; rw [(h.dom i hi).2] at this; cases this

/-- What an operation did in the trace. -/
inductive Rec where
  | skip
  | val (v : AV)
  | read (v : AV)
  | mk (id : Nat) (B : AB) (v : AV)
  | eff (v : AV) (Ma M1 : St)
def Rec.out : Rec → AV
  | .skip => .tup []
  | .val v | .read v | .mk _ _ v | .eff v _ _ => v
def Rec.isEff : Rec → Bool
  | .eff .. => true
  | _ => false
def Rec.isMk : Rec → Bool
  | .mk .. => true
  | _ => false

/-- A trace: the operations, the frame and the memory before them, what each did. -/
structure Tc where
  ops : Array Oper
  f0 : Fm
  S : St
  recs : List Rec

namespace Tc
variable (T : Tc)

def M0 : St := ⟨T.S.heap, T.S.next + T.ops.size⟩
/-- e is an effect, of the memories Ma and M1. -/
def Ef (e : Nat) (Ma M1 : St) : Prop := ∃ v, T.recs[e]? = some (.eff v Ma M1)
def IsE (e : Nat) : Prop := ∃ Ma M1, T.Ef e Ma M1
/-- A new block has been told to memory: an effect that comes behind it is listed. -/
def Abs (L : Array Bool) (i : Nat) : Prop := ∃ e, T.IsE e ∧ Lst L e ∧ Anc T.ops e i
/-- The memory behind the last effect that is listed. -/
def Cur (L : Array Bool) (M : St) : Prop :=
  ((∀ e, T.IsE e → ¬ Lst L e) ∧ M = T.M0) ∨ (∃ e Ma, T.Ef e Ma M ∧ Lst L e ∧ ∀ e', T.IsE e' → Lst L e' → e' = e ∨ Anc T.ops e e')
/-- The memory behind the last effect before e. -/
def Prev (e : Nat) (M : St) : Prop :=
  ((∀ e', T.IsE e' → ¬ Anc T.ops e e') ∧ M = T.M0) ∨ (∃ e' Ma, T.Ef e' Ma M ∧ Anc T.ops e e' ∧ ∀ e'', T.IsE e'' → Anc T.ops e e'' → e'' = e' ∨ Anc T.ops e' e'')

/-- The block that floats under a number. -/
def Fl (L : Array Bool) (id : Nat) (B : AB) : Prop := ∃ (i : Nat) (v : AV), T.recs[i]? = some (.mk id B v) ∧ Lst L i ∧ ¬ T.Abs L i
/-- The heap as it stands. -/
def Hp (L : Array Bool) (M : St) (H : Nat → Option AB) : Prop := (∀ id B, T.Fl L id B → H id = some B) ∧ (∀ id, (∀ B, ¬ T.Fl L id B) → H id = M.heap.at id)

/-- A frame that an operation with these predecessors may be looked at with. -/
def Sees (i : Nat) (o : Oper) (g : Fm) : Prop := g.n = T.f0.n ∧ ∀ t v, g.t.at t = some v →
  (∃ (j : Nat) (oj : Oper) (r : Rec), T.ops[j]? = some oj ∧ oj.dst = some t ∧ T.recs[j]? = some r ∧ v = r.out ∧ j ∈ preds o) ∨ ((∀ (j : Nat) (oj : Oper), T.ops[j]? = some oj → oj.dst = some t → Anc T.ops j i) ∧ T.f0.t.at t = some v)

/-- What a good trace fulfils. -/
structure Good (K : Nat) (P : Program) (ext : FuncId → List AV → Option AV) (call : FuncId → List AV → St → CRes) (fN : Fm) (SN : St) : Prop where
  len : T.recs.length = T.ops.size
  lim : T.S.next + T.ops.size < 1048575
  dsts : ∀ (i j : Nat) (oi oj : Oper) (d : Nat), T.ops[i]? = some oi → T.ops[j]? = some oj → oi.dst = some d → oj.dst = some d → i = j
  fits : T.f0.n < 1048575 ∧ ∀ (i : Nat) (o : Oper) (d : Nat), T.ops[i]? = some o → o.dst = some d → d < T.f0.n
  chain : ∀ e e', T.IsE e → T.IsE e' → e = e' ∨ Anc T.ops e e' ∨ Anc T.ops e' e
  irr : ∀ e, T.IsE e → ¬ Anc T.ops e e
  back : ∀ (i : Nat) (o : Oper) (j : Nat), T.ops[i]? = some o → j ∈ preds o → j < i
  ids : ∀ (i id : Nat) (B : AB) (v : AV), T.recs[i]? = some (.mk id B v) → id = T.S.next + i
  op : ∀ (i : Nat) (o : Oper) (r : Rec), T.ops[i]? = some o → T.recs[i]? = some r → ∃ g, T.Sees i o g ∧ match r with
    | .skip => want T.ops.toList g o = some false
    | .val v => want T.ops.toList g o = some true ∧ (pureOp P g o = some v ∨ ∃ (c : Call) (h : FuncId) (vs : List AV), o.op = .call c ∧ callee g c = some (h, vs) ∧ ext h vs = some v)
    | .read v => want T.ops.toList g o = some true ∧ ∀ L M, Down T.ops L → ¬ Lst L i → (∀ j ∈ preds o, Lst L j) → T.Cur L M → readOp P g M o = some v
    | .mk id B v => want T.ops.toList g o = some true ∧ allocOp P id g o = some (v, B)
    | .eff v Ma M1 => want T.ops.toList g o = some true ∧ (effOp K P g Ma o = some (v, M1) ∨ ∃ (c : Call) (h : FuncId) (vs : List AV), o.op = .call c ∧ callee g c = some (h, vs) ∧ call h vs Ma = .ok v M1)
  absorb : ∀ e Ma M1, T.Ef e Ma M1 → ∃ M, T.Prev e M ∧ Ma.next = M.next ∧ ∀ id A, Ma.heap.at id = some A →
    M.heap.at id = some A ∨ (∃ (i : Nat) (v : AV), T.recs[i]? = some (.mk id A v) ∧ Anc T.ops e i ∧ ∀ e', T.IsE e' → Anc T.ops e e' → ¬ Anc T.ops e' i)
  /-- The end. -/
  last : ∀ L M, (∀ i, i < T.ops.size → Lst L i) → T.Cur L M → SN.next = M.next ∧ ∀ H, T.Hp L M H → ∀ id A, SN.heap.at id = some A → H id = some A
  frame : fN.n = T.f0.n ∧ ∀ t v, fN.t.at t = some v → (∃ (j : Nat) (oj : Oper) (r : Rec), T.ops[j]? = some oj ∧ oj.dst = some t ∧ T.recs[j]? = some r ∧ v = r.out) ∨ ((∀ (j : Nat) (oj : Oper), T.ops[j]? = some oj → oj.dst ≠ some t) ∧ T.f0.t.at t = some v)

/-- The invariant: what is listed has been done. -/
structure Inv (K : Nat) (ρ0 : Rho) (w0 : World) (L : Array Bool) (a : Act) (w : World) (ρ : Rho) (M : St) (H : Nat → Option AB) : Prop where
  size : L.size = T.ops.size
  down : Down T.ops L
  slots : a.tmps.size = T.f0.n
  outs : ∀ (j : Nat) (o : Oper) (d : Nat) (r : Rec), T.ops[j]? = some o → o.dst = some d → T.recs[j]? = some r → Lst L j → ∃ x, a.tmps[d]? = some x ∧ VR ρ r.out x
  olds : ∀ t v, (∀ (j : Nat) (o : Oper), T.ops[j]? = some o → o.dst = some t → ¬ Lst L j) → T.f0.t.at t = some v → ∃ x, a.tmps[t]? = some x ∧ VR ρ v x
  cur : T.Cur L M
  hp : T.Hp L M H
  wr : WRf ρ H M.next w
  nx : T.S.next + T.ops.size ≤ M.next
  free1 : ∀ (i id : Nat) (B : AB) (v : AV), T.recs[i]? = some (.mk id B v) → ¬ Lst L i → ρ id = none
  free2 : ∀ (i id : Nat) (B : AB) (v : AV), T.recs[i]? = some (.mk id B v) → ¬ T.Abs L i → M.heap.at id = none
  le : ρ0.le ρ
  old : ∀ i, i < T.S.next → ρ i = ρ0 i
  keep : ∀ i, i < T.S.next → T.S.heap.at i = none → M.heap.at i = none
  new : ∀ i b n A, H i = some A → A.live = true → ρ i = some (b, n) →
    (ρ0 i = some (b, n) ∧ ∃ A', T.S.heap.at i = some A' ∧ A'.live = true) ∨ (K ≤ i ∧ (w0.heap.size ≤ b ∨ ∃ j m A', K ≤ j ∧ T.S.heap.at j = some A' ∧ A'.live = true ∧ ρ0 j = some (b, m)))
  fr : Fr K T.S ρ0 w0 w

variable {T}

theorem Inv.sees {K : Nat} {ρ0 ρ : Rho} {w0 w : World} {L : Array Bool} {a : Act} {M : St} {H : Nat → Option AB} (I : T.Inv K ρ0 w0 L a w ρ M H) {i : Nat} {o : Oper} {g : Fm} (hs : T.Sees i o g) (hnl : ¬ Lst L i) (hp : ∀ j ∈ preds o, Lst L j) : FR ρ g a := by
  refine ⟨rfl, by rw [hs.1]; exact I.slots, fun t v ht => ?_⟩
  rcases hs.2 t v ht with ⟨j, oj, r, h1, h2, h3, h4, h5⟩ | ⟨h1, h2⟩
  · subst h4; exact I.outs j oj t r h1 h2 h3 (hp j h5)
  · exact I.olds t v (fun j oj hj hd hl => hnl ((h1 j oj hj hd).lst I.down hl)) h2

theorem Inv.grow {K : Nat} {ρ0 ρ : Rho} {w0 w w' : World} {L : Array Bool} {a : Act} {M : St} {H : Nat → Option AB} (I : T.Inv K ρ0 w0 L a w ρ M H) (hb : RowKit.Below w.heap.size w w') : T.Inv K ρ0 w0 L a w' ρ M H :=
  { I with
    wr := ⟨I.wr.inj, I.wr.dom, I.wr.lim, fun i b n h => Nat.lt_of_lt_of_le (I.wr.low i b n h) hb.size, fun i B h => by
      obtain ⟨b, n, h1, h2⟩ := I.wr.blk i B h
      exact ⟨b, n, h1, by rw [hb.block b (I.wr.low i b n h1)]; exact h2⟩⟩
    fr := ⟨hb.os.trans I.fr.os, hb.tape.trans I.fr.tape, hb.output.trans I.fr.output, Nat.le_trans I.fr.size hb.size, fun b hlt hn => (hb.block b (Nat.lt_of_lt_of_le hlt I.fr.size)).trans (I.fr.block b hlt hn)⟩ }

theorem lst_set {L : Array Bool} {i j : Nat} (hi : i < L.size) : Lst (L.setIfInBounds i true) j ↔ j = i ∨ Lst L j := by
  unfold Lst
  by_cases e : j = i
  · subst e; simp [Array.getD_eq_getD_getElem?, hi]
  · simp [Array.getD_eq_getD_getElem?, Ne.symm e, e]

theorem down_set {ops : Array Oper} {L : Array Bool} {i : Nat} {o : Oper} (hi : i < L.size) (ho : ops[i]? = some o) (hd : Down ops L) (hp : ∀ j ∈ preds o, Lst L j) : Down ops (L.setIfInBounds i true) := by
  intro k q j hk hl hj
  rw [lst_set hi] at hl ⊢
  rcases hl with e | hl
  · subst e; rw [ho] at hk; injection hk with hk; subst hk; exact .inr (hp j hj)
  · exact .inr (hd k q j hk hl hj)

end Tc
end Ex
end Go.Proofs.YtdkijcmhjeaofaaGreatDoor
namespace Go.Proofs.YtdkijcmhjeaofaaGreatDoor
namespace Ex
namespace Tc

variable {P : Program} {T : Tc} {K : Nat} {ext : FuncId → List AV → Option AV} {call : FuncId → List AV → St → CRes} {fN : Fm} {SN : St} {ρ0 ρ : Rho} {w0 w : World} {L : Array Bool} {a : Act} {M : St} {H : Nat → Option AB}

theorem ancTrans {ops : Array Oper} {i j k : Nat} (h : Anc ops i j) (h' : Anc ops j k) : Anc ops i k := by
  induction h with
  | one ho hj => exact .more ho hj h'
  | more ho hj _ ih => exact .more ho hj (ih h')

theorem put_at (a : Act) (d : Option Nat) (x : Value) (t : Nat) : (a.put d x).tmps[t]? = if d = some t ∧ t < a.tmps.size then some x else a.tmps[t]? := by
  cases d with
  | none => simp [Act.put]
  | some d =>
    simp only [Act.put]
    by_cases e : d = t
    · subst e
      by_cases hl : d < a.tmps.size
      · simp [hl]
      · simp [hl]
    · simp [e]

/-- The slots, behind one operation more. -/
theorem outs_put (G : T.Good K P ext call fN SN) (I : T.Inv K ρ0 w0 L a w ρ M H) {σ : Rho} (hle : ρ.le σ) {i : Nat} {o : Oper} {r : Rec} {x : Value} (hi : i < L.size) (ho : T.ops[i]? = some o) (hr : T.recs[i]? = some r) (hx : VR σ r.out x) :
    (∀ (j : Nat) (q : Oper) (d : Nat) (s : Rec), T.ops[j]? = some q → q.dst = some d → T.recs[j]? = some s → Lst (L.setIfInBounds i true) j → ∃ x', (a.put o.dst x).tmps[d]? = some x' ∧ VR σ s.out x') ∧
    (∀ t v, (∀ (j : Nat) (q : Oper), T.ops[j]? = some q → q.dst = some t → ¬ Lst (L.setIfInBounds i true) j) → T.f0.t.at t = some v → ∃ x', (a.put o.dst x).tmps[t]? = some x' ∧ VR σ v x') := by
  constructor
  · intro j q d s hq hd hs hl
    rw [lst_set hi] at hl
    by_cases e : j = i
    · subst e
      rw [ho] at hq; injection hq with hq; subst hq
      rw [hr] at hs; injection hs with hs; subst hs
      refine ⟨x, ?_, hx⟩
      rw [put_at, if_pos ⟨hd, by rw [I.slots]; exact G.fits.2 _ _ _ ho hd⟩]
    · obtain ⟨x', h1, h2⟩ := I.outs j q d s hq hd hs (hl.resolve_left e)
      refine ⟨x', ?_, VR.mono hle _ _ h2⟩
      rw [put_at, if_neg fun h => e (G.dsts j i q o d hq ho hd h.1)]; exact h1
  · intro t v ht hv
    obtain ⟨x', h1, h2⟩ := I.olds t v (fun j q hj hd hl => ht j q hj hd ((lst_set hi).2 (.inr hl))) hv
    refine ⟨x', ?_, VR.mono hle _ _ h2⟩
    rw [put_at, if_neg fun h => ht i o ho h.1 ((lst_set hi).2 (.inl rfl))]; exact h1

theorem abs_set {i : Nat} {r : Rec} (hi : i < L.size) (hr : T.recs[i]? = some r) (he : r.isEff = false) (j : Nat) : T.Abs (L.setIfInBounds i true) j ↔ T.Abs L j := by
  constructor
  · rintro ⟨e, ⟨Ma, M1, v, hE⟩, hl, ha⟩
    rw [lst_set hi] at hl
    rcases hl with e1 | hl
    · subst e1; rw [hr] at hE; injection hE with hE; subst hE; cases he
    · exact ⟨e, ⟨Ma, M1, v, hE⟩, hl, ha⟩
  · rintro ⟨e, hE, hl, ha⟩
    exact ⟨e, hE, (lst_set hi).2 (.inr hl), ha⟩

theorem cur_set {i : Nat} {r : Rec} (hi : i < L.size) (hr : T.recs[i]? = some r) (he : r.isEff = false) (h : T.Cur L M) : T.Cur (L.setIfInBounds i true) M := by
  have key : ∀ e, T.IsE e → Lst (L.setIfInBounds i true) e → Lst L e := by
    rintro e ⟨Ma, M1, v, hE⟩ hl
    rw [lst_set hi] at hl
    rcases hl with e1 | hl
    · subst e1; rw [hr] at hE; injection hE with hE; subst hE; cases he
    · exact hl
  rcases h with ⟨h1, h2⟩ | ⟨e, Ma, h1, h2, h3⟩
  · exact .inl ⟨fun e hE hl => h1 e hE (key e hE hl), h2⟩
  · exact .inr ⟨e, Ma, h1, (lst_set hi).2 (.inr h2), fun e' hE hl => h3 e' hE (key e' hE hl)⟩

/-- An operation that leaves memory as it is. -/
theorem Inv.quiet (G : T.Good K P ext call fN SN) (I : T.Inv K ρ0 w0 L a w ρ M H) {i : Nat} {o : Oper} {r : Rec} {x : Value} (hi : i < L.size) (ho : T.ops[i]? = some o) (hr : T.recs[i]? = some r) (he : r.isEff = false) (hm : r.isMk = false)
    (hp : ∀ j ∈ preds o, Lst L j) (hx : VR ρ r.out x) : T.Inv K ρ0 w0 (L.setIfInBounds i true) (a.put o.dst x) w ρ M H := by
  obtain ⟨h1, h2⟩ := outs_put G I (Rho.le_refl ρ) hi ho hr hx
  have hfl : ∀ id B, T.Fl (L.setIfInBounds i true) id B ↔ T.Fl L id B := by
    intro id B
    constructor
    · rintro ⟨k, v, hk, hl, hna⟩
      rw [lst_set hi] at hl
      rcases hl with e | hl
      · subst e; rw [hr] at hk; injection hk with hk; subst hk; cases hm
      · exact ⟨k, v, hk, hl, fun h => hna ((abs_set hi hr he k).2 h)⟩
    · rintro ⟨k, v, hk, hl, hna⟩
      exact ⟨k, v, hk, (lst_set hi).2 (.inr hl), fun h => hna ((abs_set hi hr he k).1 h)⟩
  exact {
    size := by simp [I.size]
    down := down_set hi ho I.down hp
    slots := by cases hd : o.dst <;> simp [Act.put, I.slots]
    outs := h1
    olds := h2
    cur := cur_set hi hr he I.cur
    hp := ⟨fun id B h => I.hp.1 id B ((hfl id B).1 h), fun id h => I.hp.2 id fun B hB => h B ((hfl id B).2 hB)⟩
    wr := I.wr
    nx := I.nx
    free1 := fun k id B v hk hl => I.free1 k id B v hk fun h => hl ((lst_set hi).2 (.inr h))
    free2 := fun k id B v hk hna => I.free2 k id B v hk fun h => hna ((abs_set hi hr he k).2 h)
    le := I.le
    old := I.old
    keep := I.keep
    new := I.new
    fr := I.fr }

/-- An operation that makes a block. -/
theorem Inv.make (G : T.Good K P ext call fN SN) (hK : K ≤ T.S.next) (I : T.Inv K ρ0 w0 L a w ρ M H) {i id n : Nat} {o : Oper} {B : AB} {v : AV} {x : Value} {ob : Obj} {w' : World} (hi : i < L.size) (ho : T.ops[i]? = some o)
    (hr : T.recs[i]? = some (.mk id B v)) (hnl : ¬ Lst L i) (hp : ∀ j ∈ preds o, Lst L j) (hheap : w'.heap = w.heap.push ob) (hos : w'.os = w.os) (hta : w'.tape = w.tape) (hou : w'.output = w.output)
    (hx : VR (ρ.set id (w.heap.size, n)) v x) (hB : BR (ρ.set id (w.heap.size, n)) n B (some ob)) :
    ∃ H', T.Inv K ρ0 w0 (L.setIfInBounds i true) (a.put o.dst x) w' (ρ.set id (w.heap.size, n)) M H' := by
  have hid := G.ids i id B v hr
  have hnone : ρ id = none := I.free1 i id B v hr hnl
  have hle := Rho.le_set (p := (w.heap.size, n)) hnone
  obtain ⟨h1, h2⟩ := outs_put G I hle hi ho hr hx
  have hna : ¬ T.Abs L i := by rintro ⟨e, _, hl, ha⟩; exact hnl (ha.lst I.down hl)
  have hins : i < T.ops.size := by rw [← I.size]; exact hi
  have hsame : ∀ {k : Nat} {B' : AB} {v' : AV}, T.recs[k]? = some (.mk id B' v') → k = i := by
    intro k B' v' hk
    have := G.ids k id B' v' hk
    omega
  have hHid : H id = none := by
    rw [I.hp.2 id ?_]
    · exact I.free2 i id B v hr hna
    · rintro B' ⟨k, v', hk, hl, _⟩
      have := hsame hk; subst this; exact hnl hl
  refine ⟨fun j => if j = id then some B else H j, ?_⟩
  have hfl : ∀ j B', T.Fl (L.setIfInBounds i true) j B' ↔ (j = id ∧ B' = B) ∨ T.Fl L j B' := by
    intro j B'
    constructor
    · rintro ⟨k, v', hk, hl, hn⟩
      rw [lst_set hi] at hl
      rcases hl with e | hl
      · subst e; rw [hr] at hk; injection hk with hk; injection hk with e1 e2 e3; exact .inl ⟨e1.symm, e2.symm⟩
      · exact .inr ⟨k, v', hk, hl, fun h => hn ((abs_set hi hr rfl k).2 h)⟩
    · rintro (⟨e1, e2⟩ | ⟨k, v', hk, hl, hn⟩)
      · subst e1; subst e2; exact ⟨i, v, hr, (lst_set hi).2 (.inl rfl), fun h => hna ((abs_set hi hr rfl i).1 h)⟩
      · exact ⟨k, v', hk, (lst_set hi).2 (.inr hl), fun h => hn ((abs_set hi hr rfl k).1 h)⟩
  have hget : ∀ j p, (ρ.set id (w.heap.size, n)) j = some p → (j = id ∧ p = (w.heap.size, n)) ∨ (j ≠ id ∧ ρ j = some p) := by
    intro j p hj
    unfold Rho.set at hj
    by_cases e : j = id
    · rw [if_pos e] at hj; injection hj with hj; exact .inl ⟨e, hj.symm⟩
    · rw [if_neg e] at hj; exact .inr ⟨e, hj⟩
  have hat : ∀ j A, (if j = id then some B else H j) = some A → (j = id ∧ A = B) ∨ (j ≠ id ∧ H j = some A) := by
    intro j A hj
    by_cases e : j = id
    · rw [if_pos e] at hj; injection hj with hj; exact .inl ⟨e, hj.symm⟩
    · rw [if_neg e] at hj; exact .inr ⟨e, hj⟩
  have hidlt : id < M.next := by have := I.nx; omega
  exact {
    size := by simp [I.size]
    down := down_set hi ho I.down hp
    slots := by cases hd : o.dst <;> simp [Act.put, I.slots]
    outs := h1
    olds := h2
    cur := cur_set hi hr rfl I.cur
    hp := by
      constructor
      · intro j B' h
        rcases (hfl j B').1 h with ⟨e1, e2⟩ | h
        · subst e1; subst e2; exact if_pos rfl
        · by_cases e : j = id
          · subst e
            obtain ⟨k, v', hk, hl, _⟩ := h
            have := hsame hk; subst this; exact absurd hl hnl
          · show (if j = id then some B else H j) = some B'
            rw [if_neg e]; exact I.hp.1 j B' h
      · intro j h
        have e : j ≠ id := fun e => h B ((hfl j B).2 (.inl ⟨e, rfl⟩))
        show (if j = id then some B else H j) = _
        rw [if_neg e]
        exact I.hp.2 j fun B' hB' => h B' ((hfl j B').2 (.inr hB'))
    wr := by
      refine ⟨fun j k b m q A C hj hk hA hC hrj hrk => ?_, fun j hj => ?_, I.wr.lim, fun j b m hj => ?_, fun j A hj => ?_⟩
      · rcases hget j _ hrj with ⟨e1, p1⟩ | ⟨e1, p1⟩ <;> rcases hget k _ hrk with ⟨e2, p2⟩ | ⟨e2, p2⟩
        · rw [e1, e2]
        · injection p1 with p1; subst p1; exact absurd (I.wr.low k _ _ p2) (Nat.lt_irrefl _)
        · injection p2 with p2; subst p2; exact absurd (I.wr.low j _ _ p1) (Nat.lt_irrefl _)
        · rcases hat j A hj with ⟨e, _⟩ | ⟨_, e3⟩
          · exact absurd e e1
          · rcases hat k C hk with ⟨e, _⟩ | ⟨_, e4⟩
            · exact absurd e e2
            · exact I.wr.inj j k b m q A C e3 e4 hA hC p1 p2
      · have e : j ≠ id := by omega
        refine ⟨?_, ?_⟩
        · unfold Rho.set; rw [if_neg e]; exact (I.wr.dom j hj).1
        · show (if j = id then some B else H j) = none
          rw [if_neg e]; exact (I.wr.dom j hj).2
      · rw [hheap, Array.size_push]
        rcases hget j _ hj with ⟨_, e⟩ | ⟨_, e⟩
        · injection e with e; subst e; omega
        · exact Nat.lt_succ_of_lt (I.wr.low j b m e)
      · rcases hat j A hj with ⟨e, e2⟩ | ⟨e, e2⟩
        · subst e; subst e2; exact ⟨w.heap.size, n, Rho.set_same _ _ _, by rw [hheap]; simpa using hB⟩
        · obtain ⟨b2, n2, q1, q2⟩ := I.wr.blk j A e2
          refine ⟨b2, n2, hle _ _ q1, ?_⟩
          have hlt := I.wr.low j _ _ q1
          rw [hheap, Array.getElem?_push, if_neg (by omega)]
          exact q2.mono hle
    nx := I.nx
    free1 := by
      intro k id' B' v' hk hl
      have hk2 : ¬ Lst L k := fun h => hl ((lst_set hi).2 (.inr h))
      have e : id' ≠ id := by
        intro e; subst e
        have := hsame hk; subst this; exact hl ((lst_set hi).2 (.inl rfl))
      unfold Rho.set; rw [if_neg e]; exact I.free1 k id' B' v' hk hk2
    free2 := fun k id' B' v' hk hn => I.free2 k id' B' v' hk fun h => hn ((abs_set hi hr rfl k).2 h)
    le := Rho.le_trans I.le hle
    old := fun j hj => by unfold Rho.set; rw [if_neg (by omega)]; exact I.old j hj
    keep := I.keep
    new := by
      intro j b m A hj hA hrj
      rcases hget j _ hrj with ⟨e, p⟩ | ⟨e, p⟩
      · injection p with p1 p2; subst p1; exact .inr ⟨by omega, .inl I.fr.size⟩
      · rcases hat j A hj with ⟨e', _⟩ | ⟨_, e'⟩
        · exact absurd e' e
        · exact I.new j b m A e' hA p
    fr := ⟨hos.trans I.fr.os, hta.trans I.fr.tape, hou.trans I.fr.output, by rw [hheap]; simp; exact Nat.le_succ_of_le I.fr.size, fun b hb hn => by
      have := I.fr.size
      rw [hheap, Array.getElem?_push, if_neg (by omega)]; exact I.fr.block b hb hn⟩ }

end Tc
end Ex
end Go.Proofs.YtdkijcmhjeaofaaGreatDoor
namespace Go.Proofs.YtdkijcmhjeaofaaGreatDoor
namespace Ex
namespace Tc

variable {P : Program} {T : Tc} {K : Nat} {ext : FuncId → List AV → Option AV} {call : FuncId → List AV → St → CRes} {fN : Fm} {SN : St} {ρ0 ρ : Rho} {w0 w : World} {L : Array Bool} {a : Act} {M : St} {H : Nat → Option AB}

/-- What is listed of the effects is before one that is ready. -/
theorem eff_before (G : T.Good K P ext call fN SN) (hd : Down T.ops L) {e : Nat} (hE : T.IsE e) (hnl : ¬ Lst L e) {e' : Nat} (hE' : T.IsE e') (hl : Lst L e') : Anc T.ops e e' := by
  rcases G.chain e e' hE hE' with h | h | h
  · subst h; exact absurd hl hnl
  · exact h
  · exact absurd (h.lst hd hl) hnl

theorem prev_cur (G : T.Good K P ext call fN SN) (hd : Down T.ops L) {e : Nat} (hE : T.IsE e) (hnl : ¬ Lst L e) (hanc : ∀ k, Anc T.ops e k → Lst L k) {M' : St} (hc : T.Cur L M) (hp : T.Prev e M') : M' = M := by
  rcases hp with ⟨p1, p2⟩ | ⟨e', Ma, p1, p2, p3⟩
  · rcases hc with ⟨_, c2⟩ | ⟨e1, Ma1, c1, c2, _⟩
    · rw [p2, c2]
    · exact absurd (eff_before G hd hE hnl ⟨_, _, c1⟩ c2) (p1 e1 ⟨_, _, c1⟩)
  · rcases hc with ⟨c1, _⟩ | ⟨e1, Ma1, c1, c2, c3⟩
    · exact absurd (hanc e' p2) (c1 e' ⟨_, _, p1⟩)
    · have h1 := p3 e1 ⟨_, _, c1⟩ (eff_before G hd hE hnl ⟨_, _, c1⟩ c2)
      have h2 := c3 e' ⟨_, _, p1⟩ (hanc e' p2)
      rcases h1 with h1 | h1
      · subst h1
        obtain ⟨v1, q1⟩ := p1
        obtain ⟨v2, q2⟩ := c1
        rw [q1] at q2; injection q2 with q2; injection q2
      · rcases h2 with h2 | h2
        · subst h2
          obtain ⟨v1, q1⟩ := p1
          obtain ⟨v2, q2⟩ := c1
          rw [q1] at q2; injection q2 with q2; injection q2
        · exact absurd (ancTrans h1 h2) (G.irr e' ⟨_, _, p1⟩)

/-- What the effect finds. -/
theorem Inv.at_effect (G : T.Good K P ext call fN SN) (I : T.Inv K ρ0 w0 L a w ρ M H) {e : Nat} {Ma M1 : St} (hE : T.Ef e Ma M1) (hnl : ¬ Lst L e) (hanc : ∀ k, Anc T.ops e k → Lst L k) :
    Ma.next = M.next ∧ (∀ id A, Ma.heap.at id = some A → H id = some A) ∧ (∀ id A, Ma.heap.at id = some A → M.heap.at id = some A ∨ ∃ (i : Nat) (v : AV), T.recs[i]? = some (.mk id A v) ∧ Anc T.ops e i) := by
  obtain ⟨M', h1, h2, h3⟩ := G.absorb e Ma M1 hE
  have := prev_cur G I.down ⟨_, _, hE⟩ hnl hanc I.cur h1
  subst this
  refine ⟨h2, fun id A hA => ?_, fun id A hA => (h3 id A hA).imp (fun h => h) (fun ⟨i, v, q1, q2, _⟩ => ⟨i, v, q1, q2⟩)⟩
  rcases h3 id A hA with h | ⟨i, v, q1, q2, q3⟩
  · rw [I.hp.2 id ?_]
    · exact h
    · rintro B ⟨k, v, hk, hl, hn⟩
      rw [I.free2 k id B v hk hn] at h; cases h
  · refine I.hp.1 id A ⟨i, v, q1, hanc i q2, ?_⟩
    rintro ⟨e', hE', hl, ha⟩
    exact q3 e' hE' (eff_before G I.down ⟨_, _, hE⟩ hnl hE' hl) ha

open Classical in
/-- An effect. -/
theorem Inv.effect (G : T.Good K P ext call fN SN) (I : T.Inv K ρ0 w0 L a w ρ M H) {i : Nat} {o : Oper} {v : AV} {Ma M1 : St} {x : Value} {σ : Rho} {w' : World} (hi : i < L.size) (ho : T.ops[i]? = some o)
    (hr : T.recs[i]? = some (.eff v Ma M1)) (hnl : ¬ Lst L i) (hp : ∀ j ∈ preds o, Lst L j) (hanc : ∀ k, Anc T.ops i k → Lst L k)
    (hx : VR σ v x) (hup : Up K Ma M1 ρ σ w) (hwr : WR σ M1 w') (hfr : Fr K Ma ρ w w') :
    ∃ H', T.Inv K ρ0 w0 (L.setIfInBounds i true) (a.put o.dst x) w' σ M1 H' := by
  have hE : T.Ef i Ma M1 := ⟨v, hr⟩
  obtain ⟨hnx, hsub, hwhere⟩ := I.at_effect G hE hnl hanc
  obtain ⟨h1, h2⟩ := outs_put G I hup.le hi ho hr hx
  have habs : ∀ k, T.Abs (L.setIfInBounds i true) k ↔ T.Abs L k ∨ Anc T.ops i k := by
    intro k
    constructor
    · rintro ⟨e, he, hl, ha⟩
      rw [lst_set hi] at hl
      rcases hl with e1 | hl
      · subst e1; exact .inr ha
      · exact .inl ⟨e, he, hl, ha⟩
    · rintro (⟨e, he, hl, ha⟩ | ha)
      · exact ⟨e, he, (lst_set hi).2 (.inr hl), ha⟩
      · exact ⟨i, ⟨_, _, hE⟩, (lst_set hi).2 (.inl rfl), ha⟩
  have hfl : ∀ {id B}, T.Fl (L.setIfInBounds i true) id B → T.Fl L id B ∧ id < M.next ∧ Ma.heap.at id = none := by
    rintro id B ⟨k, u, hk, hl, hn⟩
    rw [lst_set hi] at hl
    rcases hl with e | hl
    · subst e; rw [hr] at hk; injection hk with hk; cases hk
    · have hn1 : ¬ T.Abs L k := fun h => hn ((habs k).2 (.inl h))
      have hn2 : ¬ Anc T.ops i k := fun h => hn ((habs k).2 (.inr h))
      have hid := G.ids k id B u hk
      have hks : k < T.ops.size := by
        have : k < T.recs.length := by
          by_cases h : k < T.recs.length
          · exact h
          · rw [List.getElem?_eq_none (by omega)] at hk; cases hk
        rw [G.len] at this; exact this
      refine ⟨⟨k, u, hk, hl, hn1⟩, by have := I.nx; omega, ?_⟩
      cases hma : Ma.heap.at id with
      | none => rfl
      | some A =>
        rcases hwhere id A hma with h | ⟨k', u', q1, q2⟩
        · rw [I.free2 k id B u hk hn1] at h; cases h
        · have := G.ids k' id A u' q1
          have e : k' = k := by omega
          subst e; exact absurd q2 hn2
  have huniq : ∀ {id B B'}, T.Fl (L.setIfInBounds i true) id B → T.Fl (L.setIfInBounds i true) id B' → B = B' := by
    rintro id B B' ⟨k, u, hk, _⟩ ⟨k', u', hk', _⟩
    have := G.ids k id B u hk
    have := G.ids k' id B' u' hk'
    have e : k' = k := by omega
    subst e; rw [hk] at hk'; injection hk' with hk'; injection hk' with q1 q2
  have hnolive : ∀ {id B b m}, T.Fl (L.setIfInBounds i true) id B → B.live = true → ρ id = some (b, m) → ∀ j n A, Ma.heap.at j = some A → A.live = true → ρ j ≠ some (b, n) := by
    intro id B b m hF hB hρ j n A hA hl hj
    obtain ⟨f1, f2, f3⟩ := hfl hF
    have := I.wr.inj id j b m n B A (I.hp.1 id B f1) (hsub j A hA) hB hl hρ hj
    subst this; rw [f3] at hA; cases hA
  have hH : ∀ id, (if h : ∃ B, T.Fl (L.setIfInBounds i true) id B then some h.choose else M1.heap.at id) = (if h : ∃ B, T.Fl (L.setIfInBounds i true) id B then some h.choose else M1.heap.at id) := fun _ => rfl
  let H' : Nat → Option AB := fun id => if h : ∃ B, T.Fl (L.setIfInBounds i true) id B then some h.choose else M1.heap.at id
  have hH1 : ∀ id B, T.Fl (L.setIfInBounds i true) id B → H' id = some B := by
    intro id B hF
    have h : ∃ B, T.Fl (L.setIfInBounds i true) id B := ⟨B, hF⟩
    show (if h : ∃ B, T.Fl (L.setIfInBounds i true) id B then some h.choose else M1.heap.at id) = some B
    rw [dif_pos h, huniq h.choose_spec hF]
  have hH2 : ∀ id, (∀ B, ¬ T.Fl (L.setIfInBounds i true) id B) → H' id = M1.heap.at id := by
    intro id h
    show (if h : ∃ B, T.Fl (L.setIfInBounds i true) id B then some h.choose else M1.heap.at id) = _
    rw [dif_neg (fun ⟨B, hB⟩ => h B hB)]
  have hcase : ∀ id A, H' id = some A → T.Fl (L.setIfInBounds i true) id A ∨ M1.heap.at id = some A := by
    intro id A hA
    by_cases h : ∃ B, T.Fl (L.setIfInBounds i true) id B
    · obtain ⟨B, hB⟩ := h
      rw [hH1 id B hB] at hA; injection hA with hA; subst hA; exact .inl hB
    · rw [hH2 id fun B hB => h ⟨B, hB⟩] at hA; exact .inr hA
  have hsold : ∀ j, j < M.next → σ j = ρ j := fun j hj => hup.old j (by rw [hnx]; exact hj)
  -- a floating block and a known one
  have hmix : ∀ {id B j C b m n}, T.Fl (L.setIfInBounds i true) id B → M1.heap.at j = some C → B.live = true → C.live = true → σ id = some (b, m) → σ j = some (b, n) → id = j := by
    intro id B j C b m n hF hC hB hl hσ hj
    obtain ⟨f1, f2, f3⟩ := hfl hF
    rw [hsold id f2] at hσ
    rcases hup.new j b n C hC hl hj with ⟨q1, A', q2, q3⟩ | ⟨_, q | ⟨j', m', A', _, q2, q3, q4⟩⟩
    · exact absurd q1 (hnolive hF hB hσ j n A' q2 q3)
    · exact absurd (I.wr.low id b m hσ) (by omega)
    · exact absurd q4 (hnolive hF hB hσ j' m' A' q2 q3)
  refine ⟨H', {
    size := by simp [I.size]
    down := down_set hi ho I.down hp
    slots := by cases hd : o.dst <;> simp [Act.put, I.slots]
    outs := h1
    olds := h2
    cur := .inr ⟨i, Ma, hE, (lst_set hi).2 (.inl rfl), fun e' hE' hl => by
      rw [lst_set hi] at hl
      rcases hl with e | hl
      · exact .inl e
      · exact .inr (eff_before G I.down ⟨_, _, hE⟩ hnl hE' hl)⟩
    hp := ⟨hH1, hH2⟩
    wr := ?_
    nx := by have := hup.next; rw [hnx] at this; exact Nat.le_trans I.nx this
    free1 := fun k id B u hk hl => by
      have hks : k < T.recs.length := by
        by_cases h : k < T.recs.length
        · exact h
        · rw [List.getElem?_eq_none (by omega)] at hk; cases hk
      rw [G.len] at hks
      have := G.ids k id B u hk
      rw [hsold id (by have := I.nx; omega)]
      exact I.free1 k id B u hk fun h => hl ((lst_set hi).2 (.inr h))
    free2 := fun k id B u hk hn => by
      have hks : k < T.recs.length := by
        by_cases h : k < T.recs.length
        · exact h
        · rw [List.getElem?_eq_none (by omega)] at hk; cases hk
      rw [G.len] at hks
      have hid := G.ids k id B u hk
      refine hup.keep id (by rw [hnx]; have := I.nx; omega) ?_
      cases hma : Ma.heap.at id with
      | none => rfl
      | some A =>
        rcases hwhere id A hma with h | ⟨k', u', q1, q2⟩
        · rw [I.free2 k id B u hk fun h => hn ((habs k).2 (.inl h))] at h; cases h
        · have := G.ids k' id A u' q1
          have e : k' = k := by omega
          subst e; exact absurd ((habs k').2 (.inr q2)) hn
    le := Rho.le_trans I.le hup.le
    old := fun j hj => (hsold j (by have := I.nx; omega)).trans (I.old j hj)
    keep := fun j hj h0 => by
      refine hup.keep j (by rw [hnx]; have := I.nx; omega) ?_
      cases hma : Ma.heap.at j with
      | none => rfl
      | some A =>
        rcases hwhere j A hma with h | ⟨k', u', q1, _⟩
        · rw [I.keep j hj h0] at h; cases h
        · have := G.ids k' j A u' q1; omega
    new := ?_
    fr := ?_ }⟩
  · refine ⟨fun j k b m n A C hj hk hA hC hrj hrk => ?_, fun j hj => ⟨(hwr.dom j hj).1, ?_⟩, hwr.lim, hwr.low, fun j A hj => ?_⟩
    · rcases hcase j A hj with hj | hj <;> rcases hcase k C hk with hk | hk
      · obtain ⟨f1, f2, _⟩ := hfl hj
        obtain ⟨g1, g2, _⟩ := hfl hk
        rw [hsold j f2] at hrj; rw [hsold k g2] at hrk
        exact I.wr.inj j k b m n A C (I.hp.1 j A f1) (I.hp.1 k C g1) hA hC hrj hrk
      · exact hmix hj hk hA hC hrj hrk
      · exact (hmix hk hj hC hA hrk hrj).symm
      · exact hwr.inj j k b m n A C hj hk hA hC hrj hrk
    · rw [hH2 j ?_]
      · exact (hwr.dom j hj).2
      · intro B hF
        have := (hfl hF).2.1
        have := hup.next
        omega
    · rcases hcase j A hj with hj | hj
      · obtain ⟨f1, f2, f3⟩ := hfl hj
        obtain ⟨b, n, q1, q2⟩ := I.wr.blk j A (I.hp.1 j A f1)
        refine ⟨b, n, hup.le _ _ q1, ?_⟩
        cases hA : A.live with
        | false => cases A <;> first | trivial | cases hA
        | true =>
          rw [hfr.block b (I.wr.low j _ _ q1) fun k m C _ hC hl => hnolive hj hA q1 k m C hC hl]
          exact q2.mono hup.le
      · exact hwr.blk j A hj
  · intro j b n A hj hA hrj
    rcases hcase j A hj with hj | hj
    · obtain ⟨f1, f2, _⟩ := hfl hj
      rw [hsold j f2] at hrj
      exact I.new j b n A (I.hp.1 j A f1) hA hrj
    · rcases hup.new j b n A hj hA hrj with ⟨q1, A', q2, q3⟩ | ⟨hKj, q | ⟨k, m, A', hk, q2, q3, q4⟩⟩
      · exact I.new j b n A' (hsub j A' q2) q3 q1
      · exact .inr ⟨hKj, .inl (Nat.le_trans I.fr.size q)⟩
      · rcases I.new k b m A' (hsub k A' q2) q3 q4 with ⟨r1, A2, r2, r3⟩ | ⟨_, r⟩
        · exact .inr ⟨hKj, .inr ⟨k, m, A2, hk, r2, r3, r1⟩⟩
        · exact .inr ⟨hKj, r⟩
  · refine ⟨hfr.os.trans I.fr.os, hfr.tape.trans I.fr.tape, hfr.output.trans I.fr.output, Nat.le_trans I.fr.size hfr.size, fun b hb hn => ?_⟩
    rw [hfr.block b (Nat.lt_of_lt_of_le hb I.fr.size) ?_, I.fr.block b hb hn]
    intro j n A hKj hA hl hj
    rcases I.new j b n A (hsub j A hA) hl hj with ⟨r1, A2, r2, r3⟩ | ⟨_, r | ⟨k, m, A2, hk, r2, r3, r4⟩⟩
    · exact hn j n A2 hKj r2 r3 r1
    · omega
    · exact hn k m A2 hk r2 r3 r4

end Tc
end Ex
end Go.Proofs.YtdkijcmhjeaofaaGreatDoor
