/- The journal's sentinel errors, errors.Is on them, journals.number. -/
import Derived.Test.YtdcgminjamofmaaDoorRows
import Derived.Test.YtdcgminjamofmaaDoorBase2
import Derived.LaidEql
import Derived.Stop.Asserts
import Derived.RowKitTokens
namespace Go.Proofs.YtdcgminjamofmaaDoor
open Go.RowKit Go.Extern.Stop Go.Stop Go.Extern

/-- The five sentinels lie in memory, at five different places. -/
structure Sent (w : World) (s : Nat → Addr) : Prop where
  v0 : w.cell? ⟨0, 0, none⟩ = some (.iface 125 (.pointer (some (s 0))))
  v1 : w.cell? ⟨1, 0, none⟩ = some (.iface 125 (.pointer (some (s 1))))
  v2 : w.cell? ⟨2, 0, none⟩ = some (.iface 125 (.pointer (some (s 2))))
  v3 : w.cell? ⟨3, 0, none⟩ = some (.iface 125 (.pointer (some (s 3))))
  v4 : w.cell? ⟨4, 0, none⟩ = some (.iface 125 (.pointer (some (s 4))))
  row : ∀ i, i < 5 → ∃ c t, w.heap[(s i).block]? = some (.cells c t (0, 0))
  ne : ∀ i j, i < 5 → j < 5 → i ≠ j → s i ≠ s j

theorem Sent.below {w w' : World} {s : Nat → Addr} (h : Sent w s) (hb : Below w.heap.size w w') : Sent w' s :=
  ⟨below_cell hb h.v0, below_cell hb h.v1, below_cell hb h.v2, below_cell hb h.v3, below_cell hb h.v4, fun i hi => by
    obtain ⟨c, t, hr⟩ := h.row i hi
    exact ⟨c, t, (hb.block _ (Array.getElem?_eq_some_iff.1 hr).1).trans hr⟩, h.ne⟩
theorem Sent.alloc {w : World} {s : Nat → Addr} (h : Sent w s) (o : Obj) : Sent (w.alloc o) s := h.below ((Below.refl _ _).alloc (Nat.le_refl _) o)

theorem isTypeOf (v : Value) (w : World) : Sem.run Tryd.prog (callFunc 54 #[.iface 125 v]) w = .ok (.value (.iface 114 (.agg #[.pointer (some ⟨5, 125, none⟩)]))) w := by kernel_rfl
theorem isComparable (w : World) : Sem.run Tryd.prog (callFunc 80 #[.agg #[.pointer (some ⟨5, 125, none⟩)]]) w = .ok (.value (.bool true)) w := by kernel_rfl
theorem isMethodComparable (v : Value) (w : World) : (Go.method 262 114 v "Comparable").run Tryd.prog w = .ok (80, v) w := by kernel_rfl
theorem isComp : (Tryd.prog.info? 125).map (·.comparable) = some true := by kernel_rfl
theorem isSize : (Tryd.prog.info? 151).map (·.size) = some 1 := by kernel_rfl
theorem noIsE (v : Value) (xT : TypeId) (w : World) : (Instr.typeAssert (.iface 125 v) xT 116 true).run Tryd.prog w = .ok (.tuple #[.nilIface, .bool false]) w := run_typeAssert_lacksB Tryd.underlying116 (by kernel_rfl) (by kernel_rfl) v xT w
theorem noUnwrapE (v : Value) (xT : TypeId) (w : World) : (Instr.typeAssert (.iface 125 v) xT 119 true).run Tryd.prog w = .ok (.tuple #[.nilIface, .bool false]) w := run_typeAssert_lacksB Tryd.underlying119 (by kernel_rfl) (by kernel_rfl) v xT w
theorem noUnwrapsE (v : Value) (xT : TypeId) (w : World) : (Instr.typeAssert (.iface 125 v) xT 121 true).run Tryd.prog w = .ok (.tuple #[.nilIface, .bool false]) w := run_typeAssert_lacksB Tryd.underlying121 (by kernel_rfl) (by kernel_rfl) v xT w

set_option maxHeartbeats 400000 in
theorem is_same (a : Addr) (w : World) :
    Calls Tryd.prog 45 #[.iface 125 (.pointer (some a)), .iface 125 (.pointer (some a))] w fun e w' => e = .returned (.bool true) ∧ w = w' := by
  obtain ⟨i, hi, hcmp⟩ := Option.map_eq_some_iff.1 isComp
  obtain ⟨j, hj, hjs⟩ := Option.map_eq_some_iff.1 isSize
  have tT := isTypeOf
  have cT := isComparable
  have mR := isMethodComparable
  have heq := run_eql_iface_ptr_same (P := Tryd.prog) w a Tryd.underlying62 Tryd.underlying125 hi hcmp hj
  go_enter Tryd.func45, Tryd.ntmps45
  go_wp2
  refine wp_loop_rounds 1 ?_
  rw [rounds_succ]
  go_wp2
  go_ret
  exact ⟨rfl, rfl⟩

set_option maxHeartbeats 400000 in
theorem is_other (s : Nat → Addr) (p q : Nat) (hp : p < 5) (hq : q < 5) (hpq : p ≠ q) (w : World) (hS : Sent w s) :
    Calls Tryd.prog 45 #[.iface 125 (.pointer (some (s p))), .iface 125 (.pointer (some (s q)))] w fun e w' => e = .returned (.bool false) ∧ w = w' := by
  obtain ⟨c1, t1, hr1⟩ := hS.row p hp
  obtain ⟨c2, t2, hr2⟩ := hS.row q hq
  have hne := hS.ne p q hp hq hpq
  obtain ⟨i, hi, hcmp⟩ := Option.map_eq_some_iff.1 isComp
  obtain ⟨j, hj, hjs⟩ := Option.map_eq_some_iff.1 isSize
  have tT := isTypeOf
  have cT := isComparable
  have mR := isMethodComparable
  have nE := noIsE
  have uE := noUnwrapE
  have vE := noUnwrapsE
  have heq := run_eql_iface_ptr_other (P := Tryd.prog) w Tryd.underlying62 Tryd.underlying125 hi hcmp hj (by rw [hjs]; decide) hne hr1 hr2
  clear hS hr1 hr2 hne hpq hp hq
  generalize s p = a at *
  generalize s q = b at *
  go_enter Tryd.func45, Tryd.ntmps45
  go_wp2
  refine wp_loop_rounds 1 ?_
  rw [rounds_succ]
  go_wp2
  go_ret
  exact ⟨rfl, rfl⟩
end Go.Proofs.YtdcgminjamofmaaDoor
