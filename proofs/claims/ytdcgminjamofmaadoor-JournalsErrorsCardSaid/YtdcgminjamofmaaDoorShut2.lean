/- A slice of R that came in; the end of a law's proof. -/
import Derived.Test.YtdcgminjamofmaaDoorShut
import Derived.LaidMore
import Derived.OpenShut
import Derived.Stop.Joined
namespace Go.Proofs.YtdcgminjamofmaaDoor
open Go.ChangeShapes Go.WideShapes Go.ChangeAt Go.RowKit Go.Deep

def byteAt (W : World) (a : Addr) : Int := match W.cell? a with
  | some (.int _ n) => n
  | _ => 0
def rsAt (W : World) (a : Addr) (i : Nat) : RS := ⟨byteAt W (a.add (i * 4)), byteAt W (a.add (i * 4 + 1)), byteAt W (a.add (i * 4 + 2)), byteAt W (a.add (i * 4 + 3))⟩

theorem fieldsR : ∃ f0 f1 f2 f3 : Field, Tryd.prog.underlying 59 = some (.struct #[f0, f1, f2, f3]) ∧ f0.type = 5 ∧ f1.type = 5 ∧ f2.type = 5 ∧ f3.type = 5 ∧ f0.offset = 0 ∧ f1.offset = 1 ∧ f2.offset = 2 ∧ f3.offset = 3 :=
  ⟨_, _, _, _, Tryd.underlying59, rfl, rfl, rfl, rfl, rfl, rfl, rfl, rfl⟩
theorem cellsR : Tryd.prog.cellsOf 59 = 4 := by kernel_rfl
theorem cells5 : Tryd.prog.cellsOf 5 = 1 := by kernel_rfl
theorem wf_u8 {n : Int} (h : (Lit.int .u8 n).wf = true) : 0 ≤ n ∧ n ≤ 255 := bounds_u8 h

theorem add_spot (a : Addr) (i : Nat) {W : World} {v : Value} (h : W.cell? (a.add i) = some v) (h0 : a.spot = none) : a.add i = ⟨a.block, a.off + i, none⟩ := by
  unfold Addr.add
  split
  · rename_i e; subst e; cases a; simp_all
  · rfl

set_option maxRecDepth 100000 in
theorem open_L {H : Type} {enc : TypeId × Value → H} {W : World} {base : Nat} {v : Value} {d : DataW H} {p : List MemPlace} (hv : Value.okWide Tryd.prog W .any base 23 v)
    (h : DataW.Trod enc Tryd.prog W 0 (fun _ => true) true 23 v d p) : ∃ A c, ∃ l : List RS, v = .slice A l.length c ∧ Rd W A 4 l.length (rss l) ∧ (∀ r ∈ l, r.fit) ∧ l.length ≤ 9223372036854775807 := by
  obtain ⟨a0, len, cap, rfl⟩ := okWide_slice Tryd.underlying23 hv
  obtain ⟨fuel, hf⟩ := h
  rcases open_slice Tryd.underlying23 hf with ⟨hcs, _⟩ | ⟨a, len', cap', m, n, D, Pl, hcs, _, hl, hm, hmm, _, hi⟩
  · simp [Value.cells] at hcs
    obtain ⟨rfl, rfl, rfl⟩ := hcs
    exact ⟨none, 0, [], rfl, Rd.nil, by simp, by simp⟩
  · simp [Value.cells] at hcs
    obtain ⟨rfl, rfl, rfl⟩ := hcs
    simp only [if_true] at hmm
    subst hmm
    obtain ⟨f0, f1, f2, f3, hu, t0, t1, t2, t3, o0, o1, o2, o3⟩ := fieldsR
    have key : ∀ i, i < len → ∀ q, q < 4 → ∃ x : Int, W.cell? (a.add (i * 4 + q)) = some (.int .u8 x) ∧ 0 ≤ x ∧ x ≤ 255 := by
      intro i hil q hq
      obtain ⟨cs', hc, ht'⟩ := hi i (by omega)
      rw [cellsR] at hc
      obtain ⟨_, hcl, hat⟩ := World.cells?_some hc
      obtain ⟨xs, n', _, _, _, _, hg⟩ := DataW.trod_struct hu ht'
      have hone : ∀ (k : Nat) (f : Field), #[f0, f1, f2, f3][k]? = some f → f.type = 5 → f.offset = k → k < 4 → ∃ x : Int, cs'[k]? = some (.int .u8 x) ∧ 0 ≤ x ∧ x ≤ 255 := by
        intro k f hk htt ho hk4
        have h1 := hg k f hk
        rw [htt, ho, cells5] at h1
        have hs : (cs'.drop k).take 1 = [cs'[k]'(by omega)] := by
          rw [List.drop_eq_getElem_cons (by omega)]
          rfl
        rw [hs] at h1
        cases hx : xs[k]? with
        | none => rw [hx] at h1; exact absurd h1 (by
            intro h1
            obtain ⟨y, hy⟩ : ∃ y, xs[k]? = some y := by
              have : k < xs.length := by have := ‹xs.length = _›; simp at this; omega
              exact ⟨_, List.getElem?_eq_getElem this⟩
            rw [hy] at hx; cases hx)
        | some y =>
          rw [hx] at h1
          obtain ⟨x, hx', _, hw⟩ := DataW.trod_int Tryd.underlying5 h1
          refine ⟨x, ?_, wf_u8 hw⟩
          rw [List.getElem?_eq_getElem (by omega)]
          simpa using hx'
      have hres : ∃ x : Int, cs'[q]? = some (.int .u8 x) ∧ 0 ≤ x ∧ x ≤ 255 := by
        match q, hq with
        | 0, _ => exact hone 0 f0 rfl t0 o0 (by omega)
        | 1, _ => exact hone 1 f1 rfl t1 o1 (by omega)
        | 2, _ => exact hone 2 f2 rfl t2 o2 (by omega)
        | 3, _ => exact hone 3 f3 rfl t3 o3 (by omega)
      obtain ⟨x, hx, hb⟩ := hres
      refine ⟨x, ?_, hb⟩
      rw [← Go.Deep.add_add, hat q hq, hx]
    have hat : ∀ i, i < len → ∀ q, q < 4 → W.cell? (a.add (i * 4 + q)) = some (.int .u8 (byteAt W (a.add (i * 4 + q)))) ∧ 0 ≤ byteAt W (a.add (i * 4 + q)) ∧ byteAt W (a.add (i * 4 + q)) ≤ 255 := by
      intro i hil q hq
      obtain ⟨x, hx, hb⟩ := key i hil q hq
      have : byteAt W (a.add (i * 4 + q)) = x := by unfold byteAt; rw [hx]
      rw [this]
      exact ⟨hx, hb⟩
    refine ⟨some a, m, (List.range len).map (rsAt W a), by simp, ?_, ?_, ?_⟩
    · have hll : ((List.range len).map (rsAt W a)).length = len := by simp
      rw [hll]
      refine ⟨by unfold rss; rw [flat_len _ 4 rs_len, hll], fun hn => ?_⟩
      have h00 := (hat 0 hn 0 (by omega)).1
      simp only [Nat.zero_mul, Nat.add_zero] at h00
      have hsp : a.spot = none := by
        unfold World.cell? Addr.add at h00
        simp only [if_true] at h00
        split at h00
        · split at h00
          · cases h00
          · rename_i hh; simpa using hh
        · cases h00
      refine ⟨a.block, a.off, by cases a; simp_all, by have := World.block_lt_of_cell? W _ h00; simpa [Addr.add] using this, fun j u hu => ?_⟩
      have hj : j < len * 4 := by
        have := (List.getElem?_eq_some_iff.1 hu).1
        unfold rss at this
        rw [flat_len _ 4 rs_len, hll] at this
        exact this
      have hij : j = j / 4 * 4 + j % 4 := by omega
      have hi4 : j / 4 < len := by omega
      have hm4 : j % 4 < 4 := by omega
      have h1 := (hat (j / 4) hi4 (j % 4) hm4).1
      rw [← hij] at h1
      have hfl := flat_at RS.cells 4 rs_len ((List.range len).map (rsAt W a)) (j / 4) (j % 4) (by simpa using hi4) hm4
      rw [← hij] at hfl
      unfold rss at hu
      rw [hfl] at hu
      simp only [List.getElem_map, List.getElem_range] at hu
      rw [add_spot a j h1 hsp] at h1
      rw [h1]
      have hcell : (RS.cells (rsAt W a (j / 4)))[j % 4]? = some (.int .u8 (byteAt W (a.add (j / 4 * 4 + j % 4)))) := by
        generalize j % 4 = q at hm4
        match q, hm4 with
        | 0, _ => rfl
        | 1, _ => rfl
        | 2, _ => rfl
        | 3, _ => rfl
      rw [hcell, ← hij, add_spot a j (by rw [add_spot a j (v := .int .u8 (byteAt W (a.add j))) (by have := (hat (j / 4) hi4 (j % 4) hm4).1; rw [← hij] at this; exact this) hsp]; exact h1) hsp] at hu
      exact hu
    · intro r hr
      obtain ⟨i, hi', rfl⟩ := List.mem_map.1 hr
      have hil : i < len := by simpa using hi'
      exact ⟨(hat i hil 0 (by omega)).2, (hat i hil 1 (by omega)).2, (hat i hil 2 (by omega)).2, (hat i hil 3 (by omega)).2⟩
    · simp
      unfold maxLen at hm
      omega

/-- The end of a law: it has returned true, and all memory that was there is as it was. -/
theorem law_post {H : Type} {enc : TypeId × Value → H} {P : Program} {f : Func} {s : ChangeSpec} {W W' : World} {args : Array Value} {v : Value} {ds : List (DataW H)} {before : List MemPlace}
    (hW : DataW.Whole enc P f.params.toList s.vars false W args.toList ds [] before)
    (hres : ∀ (b : Nat) (sp : Nat → Bool) (hd : Bool), DataW.TrodAll enc P W' b sp hd f.resultTypes.toList (v.resultList f.resultTypes.size) (s.fn H (ds ++ [])).results [])
    (hargs : DataW.TrodAll enc P W' 0 (fun b => decide (b < W.heap.size)) true f.params.toList args.toList (s.fn H (ds ++ [])).args before)
    (hvars : ∀ sp : Nat → Bool, DataW.TrodVars enc P W' sp s.vars (s.fn H (ds ++ [])).vars [])
    (hb : Below W.heap.size W W') : s.post enc P f false true false false W args v W' :=
  ⟨ds, [], before, [], before, [], hW, hres _ _ _, hargs, hvars _, World.keptBut_mono (fun p hp => ⟨hp, .inr (by simpa using hp)⟩) (hb.frame (· ∈ before)), fun h => by cases h⟩

theorem readL : Tryd.prog.readableRec 23 = true := by kernel_rfl
theorem ltL : 23 < Tryd.prog.types.size := of_decide_eq_true (by kernel_rfl)
theorem door_met (os : Os) (args : Array Value) : laidMetH Tryd.prog laid5 ((World.doorLaid Tryd.prog 104 os).forCall (fun _ _ => 0) ⟨#[], args, []⟩).memory :=
  laidMetH_of_parts3 (fuel := 8) (laidMet_of_run' 8 (by kernel_rfl) (by kernel_rfl)) (by kernel_rfl) (by kernel_rfl)
end Go.Proofs.YtdcgminjamofmaaDoor
