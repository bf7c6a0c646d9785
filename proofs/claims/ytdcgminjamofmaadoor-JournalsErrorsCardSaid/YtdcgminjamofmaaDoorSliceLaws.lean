/- Laws of no program: copy between slices whose elements have several cells; append of zero values that grows. -/
import Derived.Test.YtdcgminjamofmaaDoorBase2
import Derived.Laws.CopyOwn
import Derived.Lib.AppendZeros
namespace Go.Proofs.YtdcgminjamofmaaDoor
open Go.RowKit

theorem run_copy_sz {P : Program} (w : World) (dT sT ty elem : TypeId) (i : TypeInfo) (size : Nat) (g o dLen dCap : Nat) (a : Addr) (sLen sCap n : Nat) (cur : Array Value) (t : TypeId) (cs : List Value)
    (hu : P.underlying dT = some (.slice elem)) (hi : P.info? elem = some i) (hs : i.size = size)
    (hg : w.heap[g]? = some (.cells cur t (0, 0))) (hn : Nat.min sLen dLen = n) (hcs : cs.length = n * size)
    (hsrc : ∀ j v, cs[j]? = some v → w.cell? (a.add j) = some v) (hfit : o + cs.length ≤ cur.size) (h1 : ∀ v ∈ cs, v.oneCell' = true) :
    (Builtin.copy_ #[dT, sT] ty #[.slice (some ⟨g, o, none⟩) dLen dCap, .slice (some a) sLen sCap]).run P w =
      .ok (goInt n) (w.setRow g (splice cur.toList o cs).toArray) := by
  subst hs
  have hf := run_firstCells_some (P := P) w i.size n a sLen sCap cs hcs hsrc
  have hst := run_storeCells_at P g o t cs 0 cur w hg (by simpa using hfit) h1
  simp only [Nat.add_zero, List.append_assoc] at hst
  simp [Builtin.copy_, run_underlying hu, sizeOf, typeInfo, hi, Builtin.lenOf, hn, hf, hst, splice]

theorem wp_copy_sz {P : Program} {w : World} {o : Oper} {a : Act} {K : Act → World → Prop} {Q : Exit → Act → World → Prop} (d s : Operand) (dT sT : TypeId)
    (ho : o.op = .call { callee := .builtin .copy, args := #[d, s], argTypes := #[dT, sT] }) (v u : Value) (hd : a.eval d = v) (hs : a.eval s = u) {v' : Value} {w' : World}
    (hr : (Builtin.copy_ #[dT, sT] o.type #[v, u]).run P w = .ok v' w') (h : K (a.put o.dst v') w') : o.wp P a w K Q := by
  unfold Oper.wp execOp
  simp only [ho, resolve, invoke, builtin, Sem.run_bind, Sem.run_pure, Result.andThen_ok, List.map_toArray, List.map_cons, List.map_nil, hd, hs, hr]
  exact h
theorem wpList_copy_sz {P : Program} {w : World} {ops : Array Oper} {rest : List Oper} {o : Oper} {a : Act} {Q : Exit → Act → World → Prop} (hgd : o.guard = none) (d s : Operand) (dT sT : TypeId)
    (ho : o.op = .call { callee := .builtin .copy, args := #[d, s], argTypes := #[dT, sT] }) (v u : Value) (hd : a.eval d = v) (hs : a.eval s = u) {v' : Value} {w' : World}
    (hr : (Builtin.copy_ #[dT, sT] o.type #[v, u]).run P w = .ok v' w') (h : wpList P ops Q rest (a.put o.dst v') w') : wpList P ops Q (o :: rest) a w :=
  wpList_plain hgd fun _ hK => wp_copy_sz d s dT sT ho v u hd hs hr (hK _ _ h)
theorem step_copy_sz {P : Program} {ops : Array Oper} {o : Oper} {a : Act} {w : World} {K : Act → World → Prop} {Q : Exit → Act → World → Prop} {E : Prop} (hgd : o.guard = none) (d s : Operand) (dT sT : TypeId)
    (ho : o.op = .call { callee := .builtin .copy, args := #[d, s], argTypes := #[dT, sT] }) (v u : Value) (hd : a.eval d = v) (hs : a.eval s = u) {v' : Value} {w' : World}
    (hr : (Builtin.copy_ #[dT, sT] o.type #[v, u]).run P w = .ok v' w') (h : K (a.put o.dst v') w') :
    if Region.wanted o (yielded ops a.tmps) = true then Oper.wp P o a w K Q else E := by
  have hw : Region.wanted o (yielded ops a.tmps) = true := by simp [Region.wanted, hgd]
  rw [if_pos hw]
  exact wp_copy_sz d s dT sT ho v u hd hs hr h

/-- append(s, make([]T, k)...) where there is no room: a new row: the elements, then zero values. -/
theorem run_append_zeros {P : Program} (w : World) (t tn ty e : TypeId) (i : TypeInfo) (z : Value) (kd kn : IntKind) (ht : P.underlying t = some (.slice e)) (htn : P.underlying tn = some (.int kn)) (hi : P.info? e = some i) (hz : i.zero = some z)
    (a : Addr) (l c k : Nat) (xs : List Value) (hxs : xs.length = l * i.size) (hx : ∀ j u, xs[j]? = some u → w.cell? (a.add j) = some u)
    (hs : 0 < i.size) (hroom : c < l + k) (h63 : l + k ≤ 9223372036854775807) (hk : 0 < k) (hby : (l + k) * i.bytes ≤ 140737488355328) :
    (Builtin.append_ #[t, tn] ty #[.slice (some a) l c, .int kd k]).run P w =
      .ok (.slice (some ⟨w.heap.size, 0, none⟩) (l + k) (grownCap w (l + k) c e)) (w.drew.alloc (.cells (xs.toArray ++ Builtin.zeroCells z.cells k ++ Builtin.zeroCells z.cells (grownCap w (l + k) c e - (l + k))) e)) := by
  have hw : IntKind.i64.wrap (k : Int) = k := by rw [IntKind.wrap_i64]; omega
  have hneg : ¬ ((k : Int) < 0) := by omega
  have hle := nextslicecap_le hroom
  have hm : Builtin.nextslicecap (l + k) c * i.bytes ≤ 2 * (l + k) * i.bytes := Nat.mul_le_mul_right _ hle
  have h48 : ¬ (281474976710656 < Builtin.nextslicecap (l + k) c * i.bytes) := by
    rw [Nat.mul_assoc] at hm
    omega
  have hkm : k * i.bytes ≤ (l + k) * i.bytes := Nat.mul_le_mul_right _ (by omega)
  have h48i : ¬ (281474976710656 < (k : Int) * (i.bytes : Int)) := by
    rw [← Int.natCast_mul]
    omega
  have hns : ¬ (k * i.size = 0) := Nat.mul_ne_zero (by omega) (by omega)
  have hnr : ¬ (l + k ≤ c) := by omega
  have h63' : ¬ (9223372036854775807 < (l : Int) + (k : Int)) := by omega
  have hf : ∀ (w' : World), w'.heap = w.heap → (Builtin.firstCells i.size l (.slice (some a) l c)).run P w' = .ok xs.toArray w' := fun w' hw' =>
    run_firstCells_some (P := P) w' i.size l a l c xs hxs (fun j u hu => by have := hx j u hu; simpa [World.cell?, hw'] using this)
  have hf1 := hf w.drew rfl
  simp [Builtin.append_, run_underlying ht, run_underlying htn, sizeOf, typeInfo, zeroValue, hi, hz, asInt, asIntOf, hw, hneg, hns, h63', h48, h48i, hnr, Question.forced, newRow, grownCap]
  rw [hf1]
  rfl
/-- The same, said by what it is good for. -/
theorem append_zeros_own {P : Program} (w : World) (t tn ty e : TypeId) (i : TypeInfo) (z : Value) (size bytes : Nat) (kd kn : IntKind) (ht : P.underlying t = some (.slice e)) (htn : P.underlying tn = some (.int kn)) (hi : P.info? e = some i) (hz : i.zero = some z)
    (hsz : i.size = size) (hby : i.bytes = bytes) (hzs : z.cells.size = size)
    (a : Addr) (l c k : Nat) (K : Int) (hK : K = (k : Int)) (xs : List Value) (hxs : xs.length = l * size) (hx : ∀ j u, xs[j]? = some u → w.cell? (a.add j) = some u)
    (hs : 0 < size) (hroom : c < l + k) (h63 : l + k ≤ maxLen) (hk : 0 < k) (hbb : (l + k) * bytes ≤ 140737488355328) :
    ∃ C W1 Z, (Builtin.append_ #[t, tn] ty #[.slice (some a) l c, .int kd K]).run P w = .ok (.slice (some ⟨w.heap.size, 0, none⟩) (l + k) C) W1 ∧ l + k ≤ C ∧ C ≤ maxLen ∧ Z.length = (C - l) * size ∧
      W1.heap[w.heap.size]? = some (.cells (xs ++ Z).toArray e (0, 0)) ∧ Below w.heap.size w W1 ∧ w.heap.size < W1.heap.size := by
  subst hsz hby hK
  have hge := grownCap_ge w (l + k) c e
  have hr := run_append_zeros (P := P) w t tn ty e i z kd kn ht htn hi hz a l c k xs hxs hx hs hroom (by simpa [maxLen] using h63) hk hbb
  refine ⟨_, _, (Builtin.zeroCells z.cells k ++ Builtin.zeroCells z.cells (grownCap w (l + k) c e - (l + k))).toList, hr, hge, grownCap_le_maxLen w (l + k) c e h63, ?_, ?_, (Below.refl _ _).drew.alloc (Nat.le_refl _) _, by simp⟩
  · simp only [Array.toList_append, List.length_append, Array.length_toList, size_zeroCells, hzs, ← Nat.add_mul]
    congr 1
    omega
  · have e1 : (xs ++ (Builtin.zeroCells z.cells k ++ Builtin.zeroCells z.cells (grownCap w (l + k) c e - (l + k))).toList).toArray = xs.toArray ++ Builtin.zeroCells z.cells k ++ Builtin.zeroCells z.cells (grownCap w (l + k) c e - (l + k)) :=
      Array.toList_inj.1 (by simp only [Array.toList_append, List.append_assoc])
    rw [e1]
    exact heap_alloc_new w.drew _
theorem below_setRow {w w1 : World} {B g : Nat} (h : Below B w w1) (hg : B ≤ g) (cs : Array Value) : Below B w (w1.setRow g cs) :=
  h.trans ⟨rfl, rfl, rfl, by simp [World.setRow], fun k hk => setRow_other w1 g k cs (by omega)⟩
theorem size_setRow (w : World) (g : Nat) (cs : Array Value) : (w.setRow g cs).heap.size = w.heap.size := by simp [World.setRow]
end Go.Proofs.YtdcgminjamofmaaDoor
