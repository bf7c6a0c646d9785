/- Maps with keys of any kind that is compared part by part: what they hold, looked up and written, exactly. No function of the program is named; no condition. -/
import Derived.Test.YtjdmkgnlakonbaaGreatDoorBx
import Derived.Maps.OwnOps
import Derived.Test.YtjdmkgnlakonbaaGreatDoorRows
namespace Go.Proofs.YtjdmkgnlakonbaaGreatDoor
open Go.RowKit

/-- Keys K p of the type kt: equal as the p are. -/
structure KeyT {κ : Type} [DecidableEq κ] (kt : TypeId) (K : κ → Value) : Prop where
  now : ∃ d, Tryz.prog.underlying kt = some d ∧ ∀ p q, Instr.sameNow d (K p) (K q) = none
  eq : ∀ p q w, (Op.equal kt (K p) (K q)).run Tryz.prog w = .ok (decide (p = q)) w
  check : ∀ b p w, (Instr.checkKey b 10000 kt (K p)).run Tryz.prog w = .ok () w
  bits : ∀ p, Instr.sameBits 10000 (K p) (K p) = true

section
variable {κ : Type} [DecidableEq κ] {kt : TypeId} {K : κ → Value}

def idxM (p : κ) : List (κ × Value) → Nat → Option (Nat × Value)
  | [], _ => none
  | q :: l, n => if p = q.1 then some (n, q.2) else idxM p l (n + 1)
def getM (p : κ) (l : List (κ × Value)) : Option Value := (idxM p l 0).map (·.2)
def putM (p : κ) (v : Value) (l : List (κ × Value)) : List (κ × Value) := match idxM p l 0 with
  | some (i, _) => l.set i (p, v)
  | none => l ++ [(p, v)]
/-- Block M is a map that holds l. -/
def MpOk (K : κ → Value) (w : World) (M : Nat) (l : List (κ × Value)) : Prop :=
  ∃ es clock, w.heap[M]? = some (.map es clock) ∧ es.toList.map (fun e => (e.key, e.val)) = l.map fun q => (K q.1, q.2)

theorem find_run (h : KeyT kt K) (p : κ) (w : World) : ∀ (es : List MapEntry) (l : List (κ × Value)) (n : Nat), es.map (fun e => (e.key, e.val)) = (l.map fun q => (K q.1, q.2)) →
    (Instr.findAsking kt (K p) es n).run Tryz.prog w = .ok (idxM p l n) w
  | [], [], n, _ => by simp [Instr.findAsking, idxM]
  | [], q :: l, n, he => by simp at he
  | e :: es, [], n, he => by simp at he
  | e :: es, q :: l, n, he => by
    simp only [List.map_cons, List.cons.injEq, Prod.mk.injEq] at he
    obtain ⟨⟨h1, h2⟩, h3⟩ := he
    by_cases hpq : p = q.1
    · simp [Instr.findAsking, idxM, h1, h.eq, hpq, h2]
    · simp [Instr.findAsking, idxM, h1, h.eq, hpq, find_run h p w es l (n + 1) h3]
theorem findKey_run (h : KeyT kt K) (p : κ) (w : World) (es : List MapEntry) (l : List (κ × Value)) (he : es.map (fun e => (e.key, e.val)) = l.map fun q => (K q.1, q.2)) :
    (Instr.findKey kt (K p) es).run Tryz.prog w = .ok (idxM p l 0) w := by
  obtain ⟨d, hd, hn⟩ := h.now
  cases es with
  | nil =>
    cases l with
    | nil => simp [Instr.findKey, run_underlying hd, Instr.findNow, idxM]
    | cons q l => simp at he
  | cons e r =>
    cases l with
    | nil => simp at he
    | cons q l =>
      have h1 : e.key = K q.1 := by simp at he; exact he.1.1
      have hr : (Instr.findKey kt (K p) (e :: r)).run Tryz.prog w = (Instr.findAsking kt (K p) (e :: r) 0).run Tryz.prog w := by
        simp [Instr.findKey, run_underlying hd, Instr.findNow, h1, hn]
      rw [hr, find_run h p w _ _ 0 he]

theorem mp_look (h : KeyT kt K) {mt et : TypeId} (hm : Tryz.prog.underlying mt = some (.map kt et)) {z : Value} (hz : ∀ w, (zeroValue et).run Tryz.prog w = .ok z w) {w : World} {M : Nat} {l : List (κ × Value)} (hM : MpOk K w M l) (p : κ) (ok : Bool) :
    (Instr.lookup mt (.map (some M)) (K p) ok).run Tryz.prog w = .ok (if ok then .tuple #[(getM p l).getD z, .bool (getM p l).isSome] else (getM p l).getD z) w := by
  obtain ⟨es, clock, hb, he⟩ := hM
  have hobj : (getObj M).run Tryz.prog w = .ok (.map es clock) w := by simp [getObj, Sem.run, hb]
  have hck := h.check es.isEmpty p w
  have hf := findKey_run h p w es.toList l he
  unfold getM
  cases hi : idxM p l 0 with
  | none =>
    rw [hi] at hf
    simp only [Instr.lookup, Sem.run_bind, run_underlying hm, Result.andThen_ok, hobj, Sem.run_pure, hck, hf, hz]
    rfl
  | some r =>
    rw [hi] at hf
    simp only [Instr.lookup, Sem.run_bind, run_underlying hm, Result.andThen_ok, hobj, Sem.run_pure, hck, hf]
    rfl

theorem mp_put (h : KeyT kt K) {mt et : TypeId} (hm : Tryz.prog.underlying mt = some (.map kt et)) {w : World} {M : Nat} {l : List (κ × Value)} (hM : MpOk K w M l) (p : κ) (v : Value) :
    ∃ w', (Instr.mapUpdate mt (.map (some M)) (K p) v).run Tryz.prog w = .ok () w' ∧ MpOk K w' M (putM p v l) ∧ w.grownBy w' (some M) := by
  obtain ⟨es, clock, hb, he⟩ := hM
  have hlt : M < w.heap.size := (Array.getElem?_eq_some_iff.1 hb).1
  have hobj : (getObj M).run Tryz.prog w = .ok (.map es clock) w := by simp [getObj, Sem.run, hb]
  have hset : ∀ o, (setObj M o).run Tryz.prog w = .ok () { w with heap := w.heap.setIfInBounds M o } := by intro o; simp [setObj, Sem.run, hb]
  have hck := h.check false p w
  have hgr : ∀ o, w.grownBy { w with heap := w.heap.setIfInBounds M o } (some M) := fun o => ⟨rfl, rfl, rfl, by simp, fun i _ hi => by
    have : M ≠ i := fun e => hi (by rw [e])
    simp [this]⟩
  have hf := findKey_run h p w es.toList l he
  have hidx : ∀ (l : List (κ × Value)) (n i : Nat) (v : Value), idxM p l n = some (i, v) → n ≤ i ∧ ∃ q, l[i - n]? = some q ∧ q.1 = p := by
    intro l
    induction l with
    | nil => intro n i v hh; simp [idxM] at hh
    | cons q l ih =>
      intro n i v hh
      unfold idxM at hh
      by_cases hpq : p = q.1
      · rw [if_pos hpq] at hh
        injection hh with hh
        injection hh with h1 h2
        subst h1
        exact ⟨Nat.le_refl _, q, by simp, hpq.symm⟩
      · rw [if_neg hpq] at hh
        obtain ⟨h1, q', h2, h3⟩ := ih (n + 1) i v hh
        refine ⟨by omega, q', ?_, h3⟩
        have e : i - n = (i - (n + 1)) + 1 := by omega
        rw [e, List.getElem?_cons_succ]; exact h2
  unfold putM
  cases hi : idxM p l 0 with
  | none =>
    rw [hi] at hf
    refine ⟨{ w with heap := w.heap.setIfInBounds M (.map (es.push { key := K p, val := v, born := clock }) (clock + 1)) }, ?_, ⟨es.push { key := K p, val := v, born := clock }, clock + 1, by simp [hlt], ?_⟩, hgr _⟩
    · simp only [Instr.mapUpdate, Sem.run_bind, run_underlying hm, Result.andThen_ok, hobj, hck, hf, hset]
    · simp [he]
  | some r =>
    obtain ⟨i, u⟩ := r
    rw [hi] at hf
    obtain ⟨_, q, hq, hqp⟩ := hidx l 0 i u hi
    rw [Nat.sub_zero] at hq
    have hei : ∃ e, es[i]? = some e ∧ e.key = K p := by
      have h1 : (es.toList.map (fun e => (e.key, e.val)))[i]? = (l.map fun q => (K q.1, q.2))[i]? := by rw [he]
      rw [List.getElem?_map, List.getElem?_map, hq] at h1
      simp only [Option.map_some, Array.getElem?_toList] at h1
      cases hes : es[i]? with
      | none => rw [hes] at h1; simp at h1
      | some e =>
        rw [hes] at h1
        simp at h1
        exact ⟨e, rfl, by rw [h1.1, hqp]⟩
    obtain ⟨e, hj', hk⟩ := hei
    have hst : (Instr.keyThatStays (K p) (K p)).run Tryz.prog w = .ok (K p) w := by simp [Instr.keyThatStays, h.bits p]
    refine ⟨{ w with heap := w.heap.setIfInBounds M (.map (es.modify i fun e => { e with key := K p, val := v }) clock) }, ?_, ⟨es.modify i fun e => { e with key := K p, val := v }, clock, by simp [hlt], ?_⟩, hgr _⟩
    · simp only [Instr.mapUpdate, Sem.run_bind, run_underlying hm, Result.andThen_ok, hobj, hck, hf, hset, hj', Option.map_some, Option.getD_some, hk, hst]
    · apply List.ext_getElem?
      intro k
      have hk' : (es.toList.map (fun e => (e.key, e.val)))[k]? = (l.map fun q => (K q.1, q.2))[k]? := by rw [he]
      rw [List.getElem?_map, List.getElem?_map] at hk' ⊢
      rw [Array.toList_modify, List.getElem?_modify, List.getElem?_set]
      have hil : i < l.length := (List.getElem?_eq_some_iff.1 hq).1
      by_cases hik : i = k
      · subst hik
        have hes : es.toList[i]? = some e := by simpa using hj'
        simp [hes, hil]
      · simp only [hik, if_false]
        simpa using hk'

theorem wpList_mp_look (hk : KeyT kt K) {mt et : TypeId} (hmt : Tryz.prog.underlying mt = some (.map kt et)) {z : Value} (hz : ∀ w, (zeroValue et).run Tryz.prog w = .ok z w) (w : World) {ops : Array Oper} {rest : List Oper} {o : Oper} {a : Act} {Q : Exit → Act → World → Prop}
    (hg : o.guard = none) (m x : Operand) (ok : Bool) (hop : o.op = Op.lookup mt m x ok) (M : Nat) (l : List (κ × Value)) (p : κ) (hm : a.eval m = .map (some M)) (hx : a.eval x = K p) (h : MpOk K w M l)
    (hK : wpList Tryz.prog ops Q rest (a.put o.dst (if ok then .tuple #[(getM p l).getD z, .bool (getM p l).isSome] else (getM p l).getD z)) w) :
    wpList Tryz.prog ops Q (o :: rest) a w := by
  refine wpList_plain hg fun K' hK' => ?_
  have hrun := mp_look hk hmt hz h p ok
  unfold Oper.wp
  simp only [execOp, hop, hm, hx, hrun, Sem.run_bind, Result.andThen_ok]
  exact hK' _ _ hK

theorem wpList_mp_put (hk : KeyT kt K) {mt et : TypeId} (hmt : Tryz.prog.underlying mt = some (.map kt et)) (w : World) {ops : Array Oper} {rest : List Oper} {o : Oper} {a : Act} {Q : Exit → Act → World → Prop}
    (hg : o.guard = none) (m x v : Operand) (hop : o.op = Op.mapUpdate mt m x v) (M : Nat) (l : List (κ × Value)) (p : κ) (u : Value) (hm : a.eval m = .map (some M)) (hx : a.eval x = K p) (hv : a.eval v = u) (h : MpOk K w M l)
    (hK : ∀ w', MpOk K w' M (putM p u l) → w.grownBy w' (some M) → wpList Tryz.prog ops Q rest (a.put o.dst undef) w') :
    wpList Tryz.prog ops Q (o :: rest) a w := by
  refine wpList_plain hg fun K' hK' => ?_
  obtain ⟨w', hrun, h1, h2⟩ := mp_put hk hmt h p u
  unfold Oper.wp
  simp only [execOp, hop, hm, hx, hv, hrun, Sem.run_bind, Result.andThen_ok]
  exact hK' _ _ (hK w' h1 h2)
end
theorem MpOk.kept {κ : Type} {K : κ → Value} {w w' : World} {M : Nat} {l : List (κ × Value)} {row : Option Nat} (h : MpOk K w M l) (hg : w.grownBy w' row) (hne : some M ≠ row) : MpOk K w' M l := by
  obtain ⟨es, clock, hb, hes⟩ := h
  exact ⟨es, clock, (hg.block M (Array.getElem?_eq_some_iff.1 hb).1 hne).trans hb, hes⟩
theorem MpOk.below {κ : Type} {K : κ → Value} {w w' : World} {M N : Nat} {l : List (κ × Value)} (h : MpOk K w M l) (hb : Below N w w') (hN : M < N) : MpOk K w' M l := by
  obtain ⟨es, clock, hm, hes⟩ := h
  exact ⟨es, clock, _root_.Go.Proofs.YtjdmkgnlakonbaaGreatDoor.kept hb hm hN, hes⟩
theorem MpOk.lt {κ : Type} {K : κ → Value} {w : World} {M : Nat} {l : List (κ × Value)} (h : MpOk K w M l) : M < w.heap.size := by
  obtain ⟨es, clock, hm, hes⟩ := h
  exact (Array.getElem?_eq_some_iff.1 hm).1
theorem mp_made {κ : Type} (K : κ → Value) (w : World) : MpOk K (w.alloc (.map #[] 0)) w.heap.size [] := ⟨#[], 0, heap_alloc_new w _, by simp⟩
end Go.Proofs.YtjdmkgnlakonbaaGreatDoor
