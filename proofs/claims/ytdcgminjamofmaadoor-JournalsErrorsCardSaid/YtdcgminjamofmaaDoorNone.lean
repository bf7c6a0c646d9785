/- append of a nil slice; bytes that came in. -/
import Derived.Test.YtdcgminjamofmaaDoorStep
namespace Go.Proofs.YtdcgminjamofmaaDoor
open Go.RowKit
theorem run_append_none {P : Program} (w : World) (t ty e : TypeId) (i : TypeInfo) (ht : P.underlying t = some (.slice e)) (hi : P.info? e = some i) (b : Addr) (n cap c : Nat) (h : n ≤ cap) :
    (Builtin.append_ #[t, t] ty #[.slice (some b) n cap, .slice none 0 c]).run P w = .ok (.slice (some b) n cap) w := by
  simp [Builtin.append_, run_underlying ht, sizeOf, typeInfo, hi, Builtin.lenOf, Builtin.firstCells, loadCells, h, storeCells]
theorem wpList_append_none {P : Program} {w : World} {ops : Array Oper} {rest : List Oper} {o : Oper} {a : Act} {Q : Exit → Act → World → Prop} (hgd : o.guard = none) (s x : Operand) (t : TypeId)
    (ho : o.op = .call { callee := .builtin .append, args := #[s, x], argTypes := #[t, t] }) (e : TypeId) (i : TypeInfo) (ht : P.underlying t = some (.slice e)) (hi : P.info? e = some i)
    (b : Addr) (n cap m c : Nat) (hs : a.eval s = .slice (some b) n cap) (hx : a.eval x = .slice none m c) (hn : n ≤ cap) (hm : m = 0)
    (h : wpList P ops Q rest (a.put o.dst (.slice (some b) n cap)) w) : wpList P ops Q (o :: rest) a w :=
  wpList_plain hgd fun _ hK => by
    subst hm
    unfold Oper.wp execOp
    simp only [ho, resolve, invoke, builtin, Sem.run_bind, Sem.run_pure, Result.andThen_ok, List.map_toArray, List.map_cons, List.map_nil, hs, hx, run_append_none w t o.type e i ht hi b n cap c hn]
    exact hK _ _ h
theorem bts_one (l : List Int) : ∀ u ∈ bts l, u.oneCell' = true := by
  intro u hu
  obtain ⟨x, _, rfl⟩ := List.mem_map.1 hu
  rfl
theorem bts_len (l : List Int) : (bts l).length = l.length := by simp [bts]
/-- The cells of a slice of bytes, as append asks for them. -/
theorem Rd.all {w : World} {a : Addr} {n : Nat} {l : List Int} (h : Rd w (some a) 1 n (bts l)) : ∀ j u, (bts l)[j]? = some u → w.cell? (a.add j) = some u := by
  intro j u hu
  have hj := (List.getElem?_eq_some_iff.1 hu).1
  have hl := h.1
  obtain ⟨b, o, e, _, hc⟩ := h.2 (by omega)
  cases e
  have hadd : (⟨b, o, none⟩ : Addr).add j = ⟨b, o + j, none⟩ := by unfold Addr.add; split <;> simp_all
  rw [hadd]
  exact hc j u hu
end Go.Proofs.YtdcgminjamofmaaDoor
