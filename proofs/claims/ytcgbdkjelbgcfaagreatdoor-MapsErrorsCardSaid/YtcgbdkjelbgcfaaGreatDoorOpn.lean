/- A map that came in: its rows; the table of quarters out of what the row lists. -/
import Derived.Test.YtcgbdkjelbgcfaaGreatDoorLaw
import Derived.Deep.Matrix
import Derived.OpenShut
import Derived.ProofKit
import Derived.Deep.Slices
import Derived.Deep.Fields
import Derived.Carry
import Derived.LaidLaws
import Derived.LaidMore
import Derived.Stop.Joined
namespace Go.Proofs.YtcgbdkjelbgcfaaGreatDoor
open Go.ChangeShapes Go.WideShapes Go.ChangeAt Go.RowKit Go.Deep

theorem uRows : Tryz.prog.underlying 22 = some (.slice 27) := by kernel_rfl
theorem uRow : Tryz.prog.underlying 27 = some (.slice 28) := by kernel_rfl
theorem uKind : Tryz.prog.underlying 28 = some (.int .u8) := by kernel_rfl
theorem cRow : Tryz.prog.cellsOf 27 = 1 := by kernel_rfl
theorem cKind : Tryz.prog.cellsOf 28 = 1 := by kernel_rfl
theorem spot0 {W : World} {a : Addr} {u : Value} (h : W.cell? a = some u) : a.spot = none := by
  unfold World.cell? at h
  split at h
  · cases hs : a.spot with
    | none => rfl
    | some s => simp [hs] at h
  · cases h
theorem add0 (a : Addr) : a.add 0 = a := rfl
theorem addn {a : Addr} (h : a.spot = none) (j : Nat) : a.add j = ⟨a.block, a.off + j, none⟩ := by
  unfold Addr.add
  split
  · rename_i e; subst e; cases a; simp_all
  · rfl
/-- Cells that are read by their index make a slice that reads. -/
theorem rd_of_cells {W : World} {a : Addr} (n : Nat) (f : Nat → Value) (h : ∀ i, i < n → W.cell? (a.add i) = some (f i)) : Rd W (some a) 1 n ((List.range n).map f) := by
  refine ⟨by simp, fun hn => ?_⟩
  have h0 := h 0 hn
  rw [add0] at h0
  have hs := spot0 h0
  refine ⟨a.block, a.off, by cases a; simp_all, World.block_lt_of_cell? W _ h0, fun j u hu => ?_⟩
  have hj : j < n := by have := (List.getElem?_eq_some_iff.1 hu).1; simpa using this
  rw [List.getElem?_map, List.getElem?_range hj] at hu
  simp only [Option.map_some, Option.some.injEq] at hu
  rw [← addn hs, h j hj, hu]
set_option maxRecDepth 100000 in
theorem open_rows {H : Type} {enc : TypeId × Value → H} {W : World} {fuel : Nat} {v : Value} {y : DataW H × List MemPlace} (h : DataW.trod enc Tryz.prog W 0 (fun _ => true) true fuel 22 [v] = some y) :
    ∃ A c R, v = .slice A R.length c ∧ RowsOk W A R ∧ R.length ≤ maxLen ∧ ∀ r ∈ R, r.ks.length ≤ maxLen := by
  rcases open_int_rows uRows uRow uKind cRow cKind h with ⟨hcs, _⟩ | ⟨a, len, cap, A, L, C, Z, hcs, _, hlc, hcm, _, hi⟩
  · obtain rfl : v = .slice none 0 0 := by simpa using hcs
    exact ⟨none, 0, [], rfl, ⟨Rd.nil, fun _ => rfl, by simp⟩, by simp, by simp⟩
  · obtain rfl : v = .slice (some a) len cap := by simpa using hcs
    have hR : ((List.range len).map fun r => (⟨A r, C r, (Z r).take (L r)⟩ : Row)).length = len := by simp
    have hks : ∀ r, r < len → ((Z r).take (L r)).length = L r := fun r hr => by
      obtain ⟨_, h1, _, h3, _⟩ := hi r (by omega)
      rw [List.length_take, h3]; omega
    refine ⟨some a, cap, (List.range len).map fun r => ⟨A r, C r, (Z r).take (L r)⟩, by rw [hR], ⟨?_, by simp, ?_⟩, by rw [hR]; omega, ?_⟩
    · rw [hR, List.map_map]
      refine rd_of_cells len _ fun i hil => ?_
      obtain ⟨h0, _⟩ := hi i (by omega)
      rw [h0]
      simp only [Function.comp, Row.head, hks i hil]
    · intro r hr
      obtain ⟨i, hi', rfl⟩ := List.mem_map.1 hr
      have hil : i < len := by simpa using hi'
      obtain ⟨_, h1, h2, h3, h4, h5, h6⟩ := hi i (by omega)
      have hk := hks i hil
      refine ⟨?_, fun hA => ?_, fun k hk' => ?_⟩
      · dsimp only
        rw [hk]
        cases hA : A i with
        | none =>
          have := h5 hA
          have hL : L i = 0 := by omega
          rw [hL]; simp only [List.take_zero, kds, List.map_nil]; exact Rd.nil
        | some a' =>
          have hc := (h6 a' hA).2
          have hm : kds ((Z i).take (L i)) = (List.range (L i)).map fun c => Value.int .u8 ((Z i).getD c 0) := by
            apply List.ext_getElem?
            intro j
            unfold kds
            by_cases hj : j < L i
            · have hjz : j < (Z i).length := by omega
              simp [hj, hjz, List.getD_eq_getElem?_getD]
            · simp [hj, List.getElem?_take]
          rw [hm]
          exact rd_of_cells (L i) _ fun c hc' => hc c (by omega)
      · dsimp only at hA ⊢
        have := h5 hA; omega
      · dsimp only at hk'
        have := h4 k (List.mem_of_mem_take hk')
        exact bounds_u8 this
    · intro r hr
      obtain ⟨i, hi', rfl⟩ := List.mem_map.1 hr
      have hil : i < len := by simpa using hi'
      obtain ⟨_, h1, h2, _⟩ := hi i (by omega)
      dsimp only
      rw [hks i hil]; omega

theorem arr_at {H : Type} {enc : TypeId × Value → H} {W : World} {base : Nat} {sp : Nat → Bool} {held : Bool} {fuel : Nat} {t e : TypeId} {n : Nat} {cs : List Value} {ds : List (DataW H)} {p : List MemPlace} (ht : Tryz.prog.underlying t = some (.array n e))
    (h : DataW.trod enc Tryz.prog W base sp held fuel t cs = some (.agg ds, p)) (i : Nat) (hi : i < n) {d : DataW H} (hd : ds[i]? = some d) : ∃ m p', DataW.trod enc Tryz.prog W base sp held m e ((cs.drop (i * Tryz.prog.cellsOf e)).take (Tryz.prog.cellsOf e)) = some (d, p') := by
  obtain ⟨xs, m, _, hx, _, hn, hat⟩ := DataW.trod_array ht h
  injection hx with hx _
  injection hx with hx
  subst hx
  rw [List.getElem?_map] at hd
  obtain ⟨y, hy, rfl⟩ := Option.map_eq_some_iff.1 hd
  exact ⟨m, y.2, by rw [hat i hi, hy]⟩
theorem str_at {H : Type} {enc : TypeId × Value → H} {W : World} {base : Nat} {sp : Nat → Bool} {held : Bool} {fuel : Nat} {t : TypeId} {fs : Array Field} {cs : List Value} {ds : List (DataW H)} {p : List MemPlace} (ht : Tryz.prog.underlying t = some (.struct fs))
    (h : DataW.trod enc Tryz.prog W base sp held fuel t cs = some (.agg ds, p)) (i : Nat) (f : Field) (hf : fs[i]? = some f) {d : DataW H} (hd : ds[i]? = some d) : ∃ m p', DataW.trod enc Tryz.prog W base sp held m f.type ((cs.drop f.offset).take (Tryz.prog.cellsOf f.type)) = some (d, p') := by
  obtain ⟨xs, m, _, hx, _, hn, hat⟩ := DataW.trod_struct ht h
  injection hx with hx _
  injection hx with hx
  subst hx
  rw [List.getElem?_map] at hd
  obtain ⟨y, hy, rfl⟩ := Option.map_eq_some_iff.1 hd
  exact ⟨m, y.2, by rw [hat i f hf, hy]⟩

theorem uQs : Tryz.prog.underlying 183 = some (.array 4 182) := by kernel_rfl
theorem uC3 : Tryz.prog.underlying 180 = some (.array 3 159) := by kernel_rfl
theorem cQ : Tryz.prog.cellsOf 182 = 17 := by kernel_rfl
theorem cC3 : Tryz.prog.cellsOf 180 = 9 := by kernel_rfl
theorem cCell : Tryz.prog.cellsOf 159 = 3 := by kernel_rfl
theorem cInt : Tryz.prog.cellsOf 3 = 1 := by kernel_rfl
theorem cU8 : Tryz.prog.cellsOf 5 = 1 := by kernel_rfl
theorem uIntQ : Tryz.prog.underlying 3 = some (.int .i64) := by kernel_rfl
theorem uU8Q : Tryz.prog.underlying 5 = some (.int .u8) := by kernel_rfl
theorem fQ : ∃ fs f, Tryz.prog.underlying 182 = some (.struct fs) ∧ fs[3]? = some f ∧ f.type = 180 ∧ f.offset = 4 := ⟨_, _, Tryz.underlying182, rfl, rfl, rfl⟩
theorem fCell : ∃ fs f0 f1 f2, Tryz.prog.underlying 159 = some (.struct fs) ∧ fs[0]? = some f0 ∧ fs[1]? = some f1 ∧ fs[2]? = some f2 ∧ f0.type = 3 ∧ f1.type = 3 ∧ f2.type = 5 ∧ f0.offset = 0 ∧ f1.offset = 1 ∧ f2.offset = 2 :=
  ⟨_, _, _, _, Tryz.underlying159, rfl, rfl, rfl, rfl, rfl, rfl, rfl, rfl, rfl⟩
theorem one_of {l : List Value} {k : Nat} {v : Value} (h : (l.drop k).take 1 = [v]) : l[k]? = some v := by
  have := congrArg (fun l => l[0]?) h
  simpa [List.getElem?_take, List.getElem?_drop] using this
theorem deep_of {l : List Value} {a b c k : Nat} {v : Value} (h : ((((((l.drop a).take 17).drop b).take 9).drop c).take 3)[k]? = some v) : l[a + b + c + k]? = some v := by
  simp only [List.getElem?_take, List.getElem?_drop] at h
  split at h
  · split at h
    · split at h
      · rw [← h]; congr 1; omega
      · cases h
    · cases h
  · cases h
/-- The datum of one neighbour. -/
def nd (q e : Nat) : DataW Unit := .agg [.lit (.int .i64 (nxt q e).1), .lit (.int .i64 (nxt q e).2.1), .lit (.int .u8 (nxt q e).2.2)]
theorem quarter_at {W : World} {fuel : Nat} {cs : List Value} {p : List MemPlace} (h : DataW.trod (fun _ => ()) Tryz.prog W 0 (fun _ => true) false fuel 183 cs = some (Rows.laid_crimp_cells_quarters, p)) (q e : Nat) (hq : q < 4) (he : e < 3) :
    cs[q * 17 + 4 + e * 3]? = some (.int .i64 (nxt q e).1) ∧ cs[q * 17 + 4 + e * 3 + 1]? = some (.int .i64 (nxt q e).2.1) ∧ cs[q * 17 + 4 + e * 3 + 2]? = some (.int .u8 (nxt q e).2.2) := by
  obtain ⟨fs, f, hu, hf, hft, hfo⟩ := fQ
  obtain ⟨gs, g0, g1, g2, gu, a0, a1, a2, t0, t1, t2, o0, o1, o2⟩ := fCell
  have cell : ∃ m p', DataW.trod (fun _ => ()) Tryz.prog W 0 (fun _ => true) false m 159 ((((((cs.drop (q * 17)).take 17).drop 4).take 9).drop (e * 3)).take 3) = some (nd q e, p') := by
    unfold Rows.laid_crimp_cells_quarters at h
    match q, hq, e, he with
    | 0, _, 0, _ =>
      obtain ⟨m1, p1, r1⟩ := arr_at uQs h 0 (by omega) rfl
      rw [cQ] at r1
      obtain ⟨m2, p2, r2⟩ := str_at hu r1 3 f hf rfl
      rw [hft, hfo, cC3] at r2
      obtain ⟨m3, p3, r3⟩ := arr_at uC3 r2 0 (by omega) rfl
      rw [cCell] at r3
      exact ⟨m3, p3, r3⟩
    | 0, _, 1, _ =>
      obtain ⟨m1, p1, r1⟩ := arr_at uQs h 0 (by omega) rfl
      rw [cQ] at r1
      obtain ⟨m2, p2, r2⟩ := str_at hu r1 3 f hf rfl
      rw [hft, hfo, cC3] at r2
      obtain ⟨m3, p3, r3⟩ := arr_at uC3 r2 1 (by omega) rfl
      rw [cCell] at r3
      exact ⟨m3, p3, r3⟩
    | 0, _, 2, _ =>
      obtain ⟨m1, p1, r1⟩ := arr_at uQs h 0 (by omega) rfl
      rw [cQ] at r1
      obtain ⟨m2, p2, r2⟩ := str_at hu r1 3 f hf rfl
      rw [hft, hfo, cC3] at r2
      obtain ⟨m3, p3, r3⟩ := arr_at uC3 r2 2 (by omega) rfl
      rw [cCell] at r3
      exact ⟨m3, p3, r3⟩
    | 1, _, 0, _ =>
      obtain ⟨m1, p1, r1⟩ := arr_at uQs h 1 (by omega) rfl
      rw [cQ] at r1
      obtain ⟨m2, p2, r2⟩ := str_at hu r1 3 f hf rfl
      rw [hft, hfo, cC3] at r2
      obtain ⟨m3, p3, r3⟩ := arr_at uC3 r2 0 (by omega) rfl
      rw [cCell] at r3
      exact ⟨m3, p3, r3⟩
    | 1, _, 1, _ =>
      obtain ⟨m1, p1, r1⟩ := arr_at uQs h 1 (by omega) rfl
      rw [cQ] at r1
      obtain ⟨m2, p2, r2⟩ := str_at hu r1 3 f hf rfl
      rw [hft, hfo, cC3] at r2
      obtain ⟨m3, p3, r3⟩ := arr_at uC3 r2 1 (by omega) rfl
      rw [cCell] at r3
      exact ⟨m3, p3, r3⟩
    | 1, _, 2, _ =>
      obtain ⟨m1, p1, r1⟩ := arr_at uQs h 1 (by omega) rfl
      rw [cQ] at r1
      obtain ⟨m2, p2, r2⟩ := str_at hu r1 3 f hf rfl
      rw [hft, hfo, cC3] at r2
      obtain ⟨m3, p3, r3⟩ := arr_at uC3 r2 2 (by omega) rfl
      rw [cCell] at r3
      exact ⟨m3, p3, r3⟩
    | 2, _, 0, _ =>
      obtain ⟨m1, p1, r1⟩ := arr_at uQs h 2 (by omega) rfl
      rw [cQ] at r1
      obtain ⟨m2, p2, r2⟩ := str_at hu r1 3 f hf rfl
      rw [hft, hfo, cC3] at r2
      obtain ⟨m3, p3, r3⟩ := arr_at uC3 r2 0 (by omega) rfl
      rw [cCell] at r3
      exact ⟨m3, p3, r3⟩
    | 2, _, 1, _ =>
      obtain ⟨m1, p1, r1⟩ := arr_at uQs h 2 (by omega) rfl
      rw [cQ] at r1
      obtain ⟨m2, p2, r2⟩ := str_at hu r1 3 f hf rfl
      rw [hft, hfo, cC3] at r2
      obtain ⟨m3, p3, r3⟩ := arr_at uC3 r2 1 (by omega) rfl
      rw [cCell] at r3
      exact ⟨m3, p3, r3⟩
    | 2, _, 2, _ =>
      obtain ⟨m1, p1, r1⟩ := arr_at uQs h 2 (by omega) rfl
      rw [cQ] at r1
      obtain ⟨m2, p2, r2⟩ := str_at hu r1 3 f hf rfl
      rw [hft, hfo, cC3] at r2
      obtain ⟨m3, p3, r3⟩ := arr_at uC3 r2 2 (by omega) rfl
      rw [cCell] at r3
      exact ⟨m3, p3, r3⟩
    | 3, _, 0, _ =>
      obtain ⟨m1, p1, r1⟩ := arr_at uQs h 3 (by omega) rfl
      rw [cQ] at r1
      obtain ⟨m2, p2, r2⟩ := str_at hu r1 3 f hf rfl
      rw [hft, hfo, cC3] at r2
      obtain ⟨m3, p3, r3⟩ := arr_at uC3 r2 0 (by omega) rfl
      rw [cCell] at r3
      exact ⟨m3, p3, r3⟩
    | 3, _, 1, _ =>
      obtain ⟨m1, p1, r1⟩ := arr_at uQs h 3 (by omega) rfl
      rw [cQ] at r1
      obtain ⟨m2, p2, r2⟩ := str_at hu r1 3 f hf rfl
      rw [hft, hfo, cC3] at r2
      obtain ⟨m3, p3, r3⟩ := arr_at uC3 r2 1 (by omega) rfl
      rw [cCell] at r3
      exact ⟨m3, p3, r3⟩
    | 3, _, 2, _ =>
      obtain ⟨m1, p1, r1⟩ := arr_at uQs h 3 (by omega) rfl
      rw [cQ] at r1
      obtain ⟨m2, p2, r2⟩ := str_at hu r1 3 f hf rfl
      rw [hft, hfo, cC3] at r2
      obtain ⟨m3, p3, r3⟩ := arr_at uC3 r2 2 (by omega) rfl
      rw [cCell] at r3
      exact ⟨m3, p3, r3⟩
  obtain ⟨m, p', hc⟩ := cell
  unfold nd at hc
  obtain ⟨_, _, c0⟩ := str_at gu hc 0 g0 a0 rfl
  obtain ⟨_, _, c1⟩ := str_at gu hc 1 g1 a1 rfl
  obtain ⟨_, _, c2⟩ := str_at gu hc 2 g2 a2 rfl
  rw [t0, o0, cInt] at c0
  rw [t1, o1, cInt] at c1
  rw [t2, o2, cU8] at c2
  obtain ⟨n0, e0, x0, _⟩ := DataW.trod_int uIntQ c0
  obtain ⟨n1, e1, x1, _⟩ := DataW.trod_int uIntQ c1
  obtain ⟨n2, e2, x2, _⟩ := DataW.trod_int uU8Q c2
  simp only [Prod.mk.injEq, DataW.lit.injEq, Lit.int.injEq, true_and] at x0 x1 x2
  obtain ⟨x0, _⟩ := x0
  obtain ⟨x1, _⟩ := x1
  obtain ⟨x2, _⟩ := x2
  rw [x0, x1, x2]
  exact ⟨by simpa using deep_of (one_of e0), deep_of (one_of e1), deep_of (one_of e2)⟩
theorem gnQ : Tryz.prog.globalNamed "crimp/cells.quarters" = some 4 := by kernel_rfl
theorem gtQ : (Tryz.prog.globals[4]?).map (·.type) = some 183 := by kernel_rfl
theorem laid_mem {P : Program} {W : World} {n : String} {d : DataW Unit} : ∀ {l : List (String × DataW Unit)} {ps : List MemPlace}, DataW.LaidVars P W l ps → (n, d) ∈ l → ∃ g t cs fuel p, P.globalNamed n = some g ∧ (P.globals[g]?).map (·.type) = some t ∧ W.var? P n = some cs ∧ DataW.trod (fun _ => ()) P W 0 (fun _ => true) false fuel t cs.toList = some (d, p)
  | (n', d') :: r, ps, h, hm => by
    obtain ⟨g, t, cs, fuel, p, q, h1, h2, h3, h4, h5, _⟩ := h
    rcases List.mem_cons.1 hm with e | hm
    · injection e with e1 e2; subst e1; subst e2; exact ⟨g, t, cs, fuel, p, h1, h2, h3, h4⟩
    · exact laid_mem h5 hm
theorem qt_of {W : World} {l : List (String × DataW Unit)} (hl : ("crimp/cells.quarters", Rows.laid_crimp_cells_quarters) ∈ l) (h : laidMet Tryz.prog l W) : Qt W := by
  obtain ⟨ps, hv, _⟩ := h
  obtain ⟨g, t, cs, fuel, p, hg, ht, hcs, htr⟩ := laid_mem hv hl
  obtain rfl := Option.some.inj (gnQ.symm.trans hg)
  obtain rfl := Option.some.inj (gtQ.symm.trans ht)
  have hc : ∀ i, W.cell? ⟨4, i, none⟩ = cs.toList[i]? := fun i => by rw [World.var?_cell hg hcs i]; simp
  refine ⟨?_, fun q e hq he => ?_⟩
  · have := (quarter_at htr 0 0 (by omega) (by omega)).1
    rw [← hc] at this
    exact World.block_lt_of_cell? W _ this
  · rw [hc, hc, hc]; exact quarter_at htr q e hq he
end Go.Proofs.YtcgbdkjelbgcfaaGreatDoor
