/- Joined texts. What places.relative needs: its queue of ids, and laws of what it computes. · The contract of places.relative at valid patterns. · The walk of places.relative at valid patterns. · places.relative as a call that the executor knows: what it computes, with all numbers forced; a fresh row in memory. · The executor at this program: the calls that it knows, and calls that are known by runs on small memories. The two conditions: the tables of quarters and of turns lie in the world. -/
import Derived.Test.YtdkijcmhjeaofaaGreatDoorQAcr
import Derived.Test.YtdkijcmhjeaofaaGreatDoorQFs
namespace Go.Proofs.YtdkijcmhjeaofaaGreatDoor
open Go.RowKit

theorem MpOk.setCell {κ : Type} {K : κ → Value} {w : World} {M : Nat} {l : List (κ × Value)} (h : MpOk K w M l) (p : Addr) (v : Value) : MpOk K (w.setCell p v) M l := by
  obtain ⟨es, cl, h1, h2⟩ := h
  refine ⟨es, cl, ?_, h2⟩
  unfold World.setCell
  simp only [Array.getElem?_modify]
  split
  · rename_i e; subst e; rw [h1]; rfl
  · exact h1
theorem MpOk.drew {κ : Type} {K : κ → Value} {w : World} {M : Nat} {l : List (κ × Value)} (h : MpOk K w M l) : MpOk K w.drew M l := h
/-- A store into a block of one's own that is not listed. -/
theorem Bx.setOther {w wr : World} {l : List (Nat × Array Value × TypeId)} (h : Bx w l wr) {g : Nat} (hg : w.heap.size ≤ g) (hne : ∀ (i : Nat) (x : Nat × Array Value × TypeId), l[i]? = some x → x.1 ≠ g) (j : Nat) (v : Value) : Bx w l (wr.setCell ⟨g, j, none⟩ v) :=
  ⟨h.below.setCell (p := ⟨g, j, none⟩) hg v, fun i b cs t hi => (Below.heap_setCell wr ⟨g, j, none⟩ v b (hne i _ hi)).trans (h.blk i b cs t hi), h.lo, h.inj⟩

/-- The queue v holds ids in a block of one's own, other than those in av. -/
def QAt (w : World) (base : Nat) (av : List Nat) (v : Value) (l : List Nat) : Prop :=
  ∃ g o c cw, v = .slice (some ⟨g, o, none⟩) l.length c ∧ base ≤ g ∧ (∀ x ∈ av, x ≠ g) ∧ w.heap[g]? = some (Obj.cells cw 3 (0, 0)) ∧ l.length ≤ c ∧ o + c ≤ cw.size ∧ ∀ i, (h : i < l.length) → cw[o + i]? = some (.int .i64 (l[i] : Nat))
theorem QAt.below {w w' : World} {base : Nat} {av : List Nat} {v : Value} {l : List Nat} (h : QAt w base av v l) (hb : Below w.heap.size w w') : QAt w' base av v l := by
  obtain ⟨g, o, c, cw, h1, h2, h3, h4, h5⟩ := h
  exact ⟨g, o, c, cw, h1, h2, h3, kept hb h4 (Array.getElem?_eq_some_iff.1 h4).1, h5⟩
theorem QAt.set {w : World} {base : Nat} {av : List Nat} {v : Value} {l : List Nat} (h : QAt w base av v l) {b : Nat} (hb : b ∈ av) (j : Nat) (u : Value) : QAt (w.setCell ⟨b, j, none⟩ u) base av v l := by
  obtain ⟨g, o, c, cw, h1, h2, h3, h4, h5⟩ := h
  exact ⟨g, o, c, cw, h1, h2, h3, (Below.heap_setCell w ⟨b, j, none⟩ u g (Ne.symm (h3 b hb))).trans h4, h5⟩
/-- What the queue's slice says: its first id; without it. -/
theorem QAt.head {w : World} {base : Nat} {av : List Nat} {v : Value} {x : Nat} {l : List Nat} (h : QAt w base av v (x :: l)) :
    ∃ g o c, v = .slice (some ⟨g, o, none⟩) (l.length + 1) c ∧ l.length + 1 ≤ c ∧ w.cell? ⟨g, o, none⟩ = some (.int .i64 (x : Nat)) ∧ QAt w base av (.slice (some ⟨g, o + 1, none⟩) l.length (c - 1)) l := by
  obtain ⟨g, o, c, cw, h1, h2, h3, h4, h5, h6, h7⟩ := h
  simp only [List.length_cons] at h1 h5 h7
  refine ⟨g, o, c, h1, h5, ?_, g, o + 1, c - 1, cw, rfl, h2, h3, h4, by omega, by omega, fun i hi => ?_⟩
  · rw [cell_of_row w g o cw _ (0, 0) h4]
    have := h7 0 (by omega)
    simpa using this
  · have := h7 (i + 1) (by omega)
    rw [show o + 1 + i = o + (i + 1) by omega, this]; simp

theorem tyInt : ∃ i, Tryz.prog.info? 3 = some i ∧ i.size = 1 ∧ i.bytes = 8 := by
  have h : (Tryz.prog.info? 3).map (fun i => (i.size, i.bytes)) = some (1, 8) := by kernel_rfl
  cases hi : Tryz.prog.info? 3 with
  | none => rw [hi] at h; cases h
  | some i => rw [hi] at h; injection h with h; injection h with h1 h2; exact ⟨i, rfl, h1, h2⟩
theorem zeroInt (w : World) : (zeroValue 3).run Tryz.prog w = .ok (.int .i64 0) w := by kernel_rfl

/-- append(wait, n): in place, or in a new block. -/
theorem QAt.push {w : World} {base : Nat} {av : List Nat} {v : Value} {l : List Nat} (h : QAt w base av v l) (hl : l.length < 900000) (hbase : base ≤ w.heap.size) (hav : ∀ x ∈ av, x < w.heap.size) (x gy cy : Nat) (hy : w.cell? ⟨gy, 0, none⟩ = some (.int .i64 (x : Nat))) :
    ∃ v' w', (Builtin.append_ #[26, 26] 26 #[v, .slice (some ⟨gy, 0, none⟩) 1 cy]).run Tryz.prog w = .ok v' w' ∧ QAt w' base av v' (l ++ [x]) ∧
      ((∃ g j, base ≤ g ∧ (∀ x ∈ av, x ≠ g) ∧ w' = w.setCell ⟨g, j, none⟩ (.int .i64 (x : Nat))) ∨ ∃ o, w' = w.drew.alloc o) := by
  obtain ⟨g, o, c, cw, rfl, h2, h3, h4, h5, h6, h7⟩ := h
  obtain ⟨i, hi, hs, hbt⟩ := tyInt
  have hu : Tryz.prog.underlying 26 = some (.slice 3) := Tryz.underlying26
  have hx : Ex.srcTy (Tryz.prog.underlying 26) = true := by rw [hu]; rfl
  have hn : ∀ W : World, (Builtin.lenOf (.slice (some ⟨gy, 0, none⟩) 1 cy)).run Tryz.prog W = .ok 1 W := fun W => rfl
  have hload : ∀ W : World, W.cell? ⟨gy, 0, none⟩ = some (.int .i64 (x : Nat)) → (Builtin.firstCells 1 1 (.slice (some ⟨gy, 0, none⟩) 1 cy)).run Tryz.prog W = .ok #[.int .i64 (x : Nat)] W := fun W hW => by
    have := run_loadCells_list (P := Tryz.prog) (w := W) ⟨gy, 0, none⟩ [.int .i64 (x : Nat)] (fun j u hu => by
      cases j with
      | zero => simp at hu; subst hu; exact hW
      | succ j => simp at hu)
    simpa [Builtin.firstCells] using this
  by_cases hc : l.length + 1 ≤ c
  · -- in place
    have hst : (storeCells ⟨g, o + l.length * 1, none⟩ [.int .i64 (x : Nat)]).run Tryz.prog w = .ok () (w.setCell ⟨g, o + l.length, none⟩ (.int .i64 (x : Nat))) := by
      have hcell : (w.cell? ⟨g, o + l.length, none⟩).isSome = true := by rw [cell_of_row w g _ cw _ (0, 0) h4]; simp; omega
      have hfz : w.frozen? ⟨g, o + l.length, none⟩ = false := by simp [World.frozen?, h4]
      have := run_storeCells_cells (P := Tryz.prog) g (o + l.length) [.int .i64 (x : Nat)] 0 w (fun j hj => by
        have : j = 0 := by simpa using hj
        subst this; exact hcell) (fun j hj => by
        have : j = 0 := by simpa using hj
        subst this; exact hfz) (fun u hu => by simp at hu; subst hu; rfl)
      rw [Nat.mul_one]
      exact this
    have hrun := Ex.run_append_in (P := Tryz.prog) (ty := 26) (sT := 26) (xT := 26) (b := g) (off := o) (sLen := l.length) (sCap := c) (n := 1) (size := 1) (y := .slice (some ⟨gy, 0, none⟩) 1 cy) hu hx (by simp [Ex.tySize, hi, hs]) (hn w) hc (hload w hy) hst
    refine ⟨_, _, hrun, ⟨g, o, c, _, by simp, h2, h3, heap_setCell_at _ h4, by simpa using hc, by simp; omega, fun j hj => ?_⟩, .inl ⟨g, _, h2, h3, rfl⟩⟩
    simp only [List.length_append, List.length_cons, List.length_nil] at hj
    by_cases e : j = l.length
    · subst e
      rw [Array.getElem?_setIfInBounds]
      simp; omega
    · rw [Array.getElem?_setIfInBounds, if_neg (by omega), h7 j (by omega), List.getElem_append_left (by omega)]
  · -- in a new block
    have hold : (Builtin.firstCells 1 l.length (.slice (some ⟨g, o, none⟩) l.length c)).run Tryz.prog w.drew = .ok (l.map fun (i : Nat) => Value.int .i64 (i : Int)).toArray w.drew := by
      have := run_loadCells_list (P := Tryz.prog) (w := w.drew) ⟨g, o, none⟩ (l.map fun (i : Nat) => Value.int .i64 (i : Int)) (fun j u hu => by
        have hj : j < l.length := by
          by_cases hj : j < l.length
          · exact hj
          · rw [List.getElem?_eq_none (by simp; omega)] at hu; cases hu
        have e : w.drew.cell? ⟨g, o + j, none⟩ = w.cell? ⟨g, o + j, none⟩ := rfl
        rw [Ex.addr_add, e, cell_of_row w g _ cw _ (0, 0) h4, h7 j hj]
        simp [hj] at hu
        rw [← hu])
      simpa [Builtin.firstCells] using this
    obtain ⟨q, hq, hrun⟩ := Ex.run_append_new (P := Tryz.prog) (ty := 26) (sT := 26) (xT := 26) (base := some ⟨g, o, none⟩) (sLen := l.length) (sCap := c) (n := 1) (size := 1) (y := .slice (some ⟨gy, 0, none⟩) 1 cy) (i := i) hu hx hi hs (by rw [hbt]; decide) (hn w) (by omega) (by omega) hold (hload w.drew hy) (zeroInt w.drew)
    refine ⟨_, _, hrun, ⟨w.heap.size, 0, q, _, by simp, hbase, fun y hy => Nat.ne_of_lt (hav y hy), heap_alloc_new w.drew _, by simpa using hq, ?_, fun j hj => ?_⟩, .inr ⟨_, rfl⟩⟩
    · simp [Builtin.zeroCells, Value.cells]; omega
    · simp only [List.length_append, List.length_cons, List.length_nil] at hj
      rw [Nat.zero_add]
      rw [Array.getElem?_append_left (by simp; omega)]
      by_cases e : j = l.length
      · subst e; simp
      · rw [Array.getElem?_append_left (by simp; omega)]
        simp [show j < l.length by omega]
end Go.Proofs.YtdkijcmhjeaofaaGreatDoor
namespace Go.Proofs.YtdkijcmhjeaofaaGreatDoor
open Go.RowKit

def unk (kn : List Bool) : Nat := (kn.filter (fun b => !b)).length
theorem unk_set : ∀ (kn : List Bool) (n : Nat), n < kn.length → kn.getD n false = false → unk (kn.set n true) + 1 = unk kn
  | [], n, h, _ => by simp at h
  | b :: kn, 0, _, h => by
    simp at h; subst h; simp [unk]
  | b :: kn, n + 1, h, h0 => by
    have ih := unk_set kn n (by simpa using h) (by simpa using h0)
    unfold unk at ih ⊢
    cases b <;> simp <;> omega
def RS.mm (s : RS) : Nat := unk s.known + s.wait.length
structure RsOk (k : Nat) (s : RS) : Prop where
  out : s.out.length = k
  known : s.known.length = k
  wait : ∀ i ∈ s.wait, i < k
  t : ∀ m ∈ s.out, m.t ≤ 255
def relRem (a b : Int) (l : List Cr) (id : Nat) : Nat → RS → Option RS
  | 0, s => some s
  | j + 1, s => (relE a b l id (2 - j) s).bind (relRem a b l id j)
theorem relStep_rem (a b : Int) (l : List Cr) (id : Nat) (s : RS) : relStep a b l id s = relRem a b l id 3 s := by
  show ((relE a b l id 0 s).bind fun s => (relE a b l id 1 s).bind fun s => relE a b l id 2 s) = (relE a b l id 0 s).bind fun s => (relE a b l id 1 s).bind fun s => (relE a b l id 2 s).bind some
  cases relE a b l id 0 s with
  | none => rfl
  | some s1 =>
    simp only [Option.bind_some]
    cases relE a b l id 1 s1 with
    | none => rfl
    | some s2 =>
      simp only [Option.bind_some]
      cases relE a b l id 2 s2 <;> rfl
theorem thenG_t (x y : Mv) : (thenG x y).1.t ≤ 255 := by
  unfold thenG
  split
  · unfold thenM limM
    split
    · rename_i h
      have := (Mv.ok_iff.1 h).1
      exact Nat.le_trans (Nat.le_of_lt this) (by decide)
    · exact (by decide : 0 ≤ 255)
  · exact (by decide : 0 ≤ 255)
theorem across_t (a b : Int) (l : List Cr) (out : List Mv) (id e : Nat) (h : ∀ m ∈ out, m.t ≤ 255) : (acrossF a b l out id e).t ≤ 255 := by
  unfold acrossF
  split
  · exact thenG_t _ _
  · rw [List.getD_eq_getElem?_getD]
    cases ho : out[id]? with
    | none => exact (by decide : 0 ≤ 255)
    | some m => exact h m (List.mem_of_getElem? ho)
theorem nbI_lt {a b i e : Int} (hs : okS a b = true) (h : (nbI a b i e).2 = 0) : 0 ≤ (nbI a b i e).1 ∧ (nbI a b i e).1 < 4 * a * b := by
  unfold nbI at h ⊢
  split at h
  · cases h
  · rename_i h1
    rw [if_neg h1]
    split at h
    · rename_i h2
      rw [if_pos h2]
      have hq := nbr_bd (i / 4 % a) (i / 4 / a) (i % 4) e
      unfold idI at h ⊢
      split at h
      · rename_i h3
        rw [if_pos h3]
        obtain ⟨_, x1, x2, y1, y2⟩ := inS_iff.1 h3
        obtain ⟨z1, z2, z3⟩ := in_bd hs ⟨x1, x2⟩ ⟨y1, y2⟩
        have e0 : 4 * a * b = 4 * (a * b) := Int.mul_assoc _ _ _
        constructor
        · dsimp only; omega
        · dsimp only; omega
      · cases h
    · cases h
theorem countN_int {a b : Int} (hs : okS a b = true) : ((countN a b : Nat) : Int) = 4 * a * b ∧ 1 ≤ countN a b ∧ countN a b ≤ 1024 := by
  obtain ⟨m1, m2, m3, m4, m5, m6⟩ := mul_bd hs
  have e0 : 4 * a * b = 4 * (a * b) := Int.mul_assoc _ _ _
  unfold countN
  omega

/-- Bools as memory holds them. -/
def boolsV (l : List Bool) : List Value := l.map Value.bool
theorem bools_set (l : List Bool) (n : Nat) : (boolsV l).toArray.setIfInBounds n (.bool true) = (boolsV (l.set n true)).toArray := by
  simp [boolsV, List.map_set]
theorem mvs_set (l : List Mv) (n : Nat) (m : Mv) : (((mvsV l).toArray.setIfInBounds (n * 3) (.int .u8 m.t)).setIfInBounds (n * 3 + 1) (.int .i64 m.x)).setIfInBounds (n * 3 + 2) (.int .i64 m.y) = (mvsV (l.set n m)).toArray := by
  have hlen : ∀ l : List Mv, (mvsV l).length = l.length * 3 := fun l => by unfold mvsV; induction l with | nil => rfl | cons x l ih => simp [List.flatMap_cons, ih, mvCells_len]; omega
  have hat : ∀ (l : List Mv) (i f : Nat), i < l.length → f < 3 → (mvsV l)[i * 3 + f]? = (match l[i]? with | some m => m.cells[f]? | none => none) := fun l i f hi hf => by
    rw [List.getElem?_eq_getElem hi]
    exact flat_at Mv.cells 3 mvCells_len _ i f hi hf
  apply Array.ext'
  simp only [Array.toList_setIfInBounds]
  apply List.ext_getElem?
  intro j
  by_cases hj : j < l.length * 3
  · obtain ⟨i, f, hf, rfl⟩ : ∃ i f, f < 3 ∧ j = i * 3 + f := ⟨j / 3, j % 3, by omega, by omega⟩
    have hi : i < l.length := by omega
    rw [hat (l.set n m) i f (by simpa using hi) hf]
    simp only [List.getElem?_set, List.length_set, hlen]
    by_cases e : n = i
    · subst e
      rw [if_pos rfl, if_pos hi]
      have h3 : f = 0 ∨ f = 1 ∨ f = 2 := by omega
      rcases h3 with rfl | rfl | rfl
      · simp [Mv.cells]; omega
      · simp [Mv.cells]; omega
      · simp [Mv.cells]; omega
    · rw [if_neg e, if_neg (by omega), if_neg (by omega), if_neg (by omega), hat l i f hi hf]
  · rw [List.getElem?_eq_none (by simp [hlen]; omega), List.getElem?_eq_none (by simp [hlen]; omega)]
def falses (w : World) (g : Nat) : Nat := match w.heap[g]? with
  | some (.cells c _ _) => (c.toList.filter fun v => match v with | .bool false => true | _ => false).length
  | _ => 0
def lenV : Value → Nat
  | .slice _ n _ => n
  | _ => 0
theorem falses_eq {w : World} {g : Nat} {l : List Bool} {t : TypeId} (h : w.heap[g]? = some (.cells (boolsV l).toArray t (0, 0))) : falses w g = unk l := by
  unfold falses
  rw [h]
  clear h
  unfold unk boolsV
  induction l with
  | nil => rfl
  | cons b l ih =>
    cases b <;> simp at ih ⊢ <;> exact ih

theorem mvsV_len (l : List Mv) : (mvsV l).length = l.length * 3 := by
  unfold mvsV; induction l with | nil => rfl | cons x l ih => simp [List.flatMap_cons, ih, mvCells_len]; omega
theorem made_mv (k : Nat) : madeCells #[.int .u8 0, .int .i64 0, .int .i64 0] (k * 3) = (mvsV (List.replicate k mv0)).toArray := by
  apply Array.ext'
  apply List.ext_getElem?
  intro j
  by_cases hj : j < k * 3
  · obtain ⟨i, f, hf, rfl⟩ : ∃ i f, f < 3 ∧ j = i * 3 + f := ⟨j / 3, j % 3, by omega, by omega⟩
    have hi : i < k := by omega
    have h1 : (mvsV (List.replicate k mv0))[i * 3 + f]? = (((List.replicate k mv0)[i]'(by simpa using hi)).cells)[f]? := flat_at Mv.cells 3 mvCells_len _ i f (by simpa using hi) hf
    rw [h1]
    have h3 : f = 0 ∨ f = 1 ∨ f = 2 := by omega
    have hm : (i * 3 + f) % 3 = f := by omega
    simp [madeCells, hj, hm]
    rcases h3 with rfl | rfl | rfl
    · rfl
    · rfl
    · rfl
  · rw [List.getElem?_eq_none (by simp [madeCells]; omega), List.getElem?_eq_none (by simp [mvsV_len]; omega)]
theorem make_mvs (k : Nat) (hk : k ≤ 1024) (W : World) : (Instr.makeSlice 135 (.int .i64 k) (.int .i64 k)).run Tryz.prog W = .ok (.slice (some ⟨W.heap.size, 0, none⟩) k k) (W.alloc (.cells (mvsV (List.replicate k mv0)).toArray 68)) := by
  have hinfo : (Tryz.prog.info? 68).map (fun i => (i.zero, i.size, i.bytes)) = some (some (.agg #[.int .u8 0, .int .i64 0, .int .i64 0]), 3, 24) := by kernel_rfl
  obtain ⟨i, hi, hz, hs, hb⟩ := info_parts hinfo
  have h := run_make (P := Tryz.prog) W 135 68 i _ Tryz.underlying135 hi hz .i64 .i64 k k (by omega) (by omega) (by rw [hb]; omega) (by omega)
  rw [h]
  simp only [Int.toNat_natCast, hs]
  have e : (Value.agg #[.int .u8 0, .int .i64 0, .int .i64 0]).cells = #[.int .u8 0, .int .i64 0, .int .i64 0] := by rfl
  rw [e, made_mv]
theorem make_bools (k : Nat) (hk : k ≤ 1024) (W : World) : (Instr.makeSlice 41 (.int .i64 k) (.int .i64 k)).run Tryz.prog W = .ok (.slice (some ⟨W.heap.size, 0, none⟩) k k) (W.alloc (.cells (boolsV (List.replicate k false)).toArray 4)) := by
  have hinfo : (Tryz.prog.info? 4).map (fun i => (i.zero, i.size, i.bytes)) = some (some (.bool false), 1, 1) := by kernel_rfl
  obtain ⟨i, hi, hz, hs, hb⟩ := info_parts hinfo
  have h := run_make (P := Tryz.prog) W 41 4 i _ Tryz.underlying41 hi hz .i64 .i64 k k (by omega) (by omega) (by rw [hb]; omega) (by omega)
  rw [h]
  simp only [Int.toNat_natCast, hs, Nat.mul_one]
  have e : madeCells (Value.bool false).cells k = (boolsV (List.replicate k false)).toArray := by
    apply Array.ext'
    exact (toList_madeCells_one (.bool false) k).trans (by simp [boolsV])
  rw [e]

/-- The call returns places in new memory, or nothing and the error 11. -/
def RelRet (r : Option (List Mv)) (w : World) (e : Ending) (w' : World) : Prop := Below w.heap.size w w' ∧ match r with
  | some ms => ∃ g, e = .returned (.tuple #[.slice (some ⟨g, 0, none⟩) ms.length ms.length, .int .i64 0]) ∧ w.heap.size ≤ g ∧ w'.heap[g]? = some (Obj.cells (mvsV ms).toArray 68 (0, 0))
  | none => e = .returned (.tuple #[.slice none 0 0, .int .i64 11])
end Go.Proofs.YtdkijcmhjeaofaaGreatDoor
namespace Go.Proofs.YtdkijcmhjeaofaaGreatDoor
open Go.RowKit

theorem cell_size {w : World} {g o : Nat} {cw : Array Value} {t : TypeId} {v : Value} (h : w.heap[g]? = some (Obj.cells cw t (0, 0))) (hc : w.cell? ⟨g, o, none⟩ = some v) : cw[o]? = some v := by
  rw [cell_of_row w g o cw t (0, 0) h] at hc; exact hc
def relL (a b : Int) (A : Option Addr) (n cc k M N N4 N5 go gk : Nat) (s : RS) : List (Nat × Array Value × TypeId) :=
  [(N, #[.int .i64 a, .int .i64 b, .slice A n cc], 66), (N4, #[.map (some M)], 351), (go, (mvsV s.out).toArray, 68), (N5, #[.slice (some ⟨go, 0, none⟩) k k], 135), (gk, (boolsV s.known).toArray, 4)]
/-- The world holds what places.relative knows. -/
structure RelAt (w : World) (a b : Int) (l : List Cr) (A : Option Addr) (n cc k M N N4 N5 go gk : Nat) (v : Value) (wr : World) (s : RS) : Prop where
  bx : Bx w (relL a b A n cc k M N N4 N5 go gk s) wr
  mp : MpOk unK wr M (crM l)
  q : QAt wr w.heap.size [N, N4, N5, go, gk] v s.wait
  ok : RsOk k s
theorem QAt.len {w : World} {base : Nat} {av : List Nat} {v : Value} {l : List Nat} (h : QAt w base av v l) : lenV v = l.length := by
  obtain ⟨g, o, c, cw, rfl, _⟩ := h; rfl
theorem RelAt.mm {w wr : World} {a b : Int} {l : List Cr} {A : Option Addr} {n cc k M N N4 N5 go gk : Nat} {v : Value} {s : RS} (h : RelAt w a b l A n cc k M N N4 N5 go gk v wr s) : falses wr gk + lenV v = s.mm := by
  rw [falses_eq (h.bx.blk 4 _ _ _ rfl), h.q.len]; rfl

theorem relE_bad {a b : Int} {l : List Cr} {id e : Nat} {s : RS} (h : (nbI a b id e).2 ≠ 0) : relE a b l id e s = some s := by
  unfold relE; rw [if_pos h]
theorem relE_known {a b : Int} {l : List Cr} {id e y : Nat} {s : RS} (h : nbI a b id e = ((y : Int), 0)) (hk : s.known.getD y false = true) : relE a b l id e s = if s.out.getD y mv0 = acrossF a b l s.out id e then some s else none := by
  unfold relE
  rw [if_neg (by rw [h]; simp), h]
  simp only [Int.toNat_natCast, hk, if_true]
theorem relE_new {a b : Int} {l : List Cr} {id e y : Nat} {s : RS} (h : nbI a b id e = ((y : Int), 0)) (hk : s.known.getD y false = false) (hy : y < s.out.length) : relE a b l id e s = some ⟨s.out.set y (acrossF a b l s.out id e), s.known.set y true, s.wait ++ [y]⟩ := by
  unfold relE
  rw [if_neg (by rw [h]; simp), h]
  simp only [Int.toNat_natCast, hk, Bool.false_eq_true, if_false]
  rw [if_pos (by simp [List.getD, hy])]
theorem RelAt.call {w wr w2 : World} {a b : Int} {l : List Cr} {A : Option Addr} {n cc k M N N4 N5 go gk : Nat} {v : Value} {s : RS} (h : RelAt w a b l A n cc k M N N4 N5 go gk v wr s) (hb : Below wr.heap.size wr w2) : RelAt w a b l A n cc k M N N4 N5 go gk v w2 s :=
  ⟨h.bx.call hb, h.mp.below hb h.mp.lt, h.q.below hb, h.ok⟩

theorem QAt.avoid {w : World} {base : Nat} {av : List Nat} {v : Value} {l : List Nat} (h : QAt w base av v l) {P : Nat} (hP : w.heap.size ≤ P) : QAt w base (av ++ [P]) v l := by
  obtain ⟨g, o, c, cw, h1, h2, h3, h4, h5⟩ := h
  refine ⟨g, o, c, cw, h1, h2, fun x hx => ?_, h4, h5⟩
  have := (Array.getElem?_eq_some_iff.1 h4).1
  rcases List.mem_append.1 hx with h6 | h6
  · exact h3 x h6
  · have : x = P := by simpa using h6
    omega
theorem QAt.sub {w : World} {base : Nat} {av av' : List Nat} {v : Value} {l : List Nat} (h : QAt w base av v l) (hs : ∀ x ∈ av', x ∈ av) : QAt w base av' v l := by
  obtain ⟨g, o, c, cw, h1, h2, h3, h4, h5⟩ := h
  exact ⟨g, o, c, cw, h1, h2, fun x hx => h3 x (hs x hx), h4, h5⟩
/-- A new place is written down. -/
theorem RelAt.put {w wr : World} {a b : Int} {l : List Cr} {A : Option Addr} {n cc k M N N4 N5 go gk : Nat} {v : Value} {s : RS} (h : RelAt w a b l A n cc k M N N4 N5 go gk v wr s) (y : Nat) (m : Mv) (hm : m.t ≤ 255) :
    RelAt w a b l A n cc k M N N4 N5 go gk v ((((wr.setCell ⟨go, y * 3, none⟩ (.int .u8 m.t)).setCell ⟨go, y * 3 + 1, none⟩ (.int .i64 m.x)).setCell ⟨go, y * 3 + 2, none⟩ (.int .i64 m.y)).setCell ⟨gk, y, none⟩ (.bool true)) ⟨s.out.set y m, s.known.set y true, s.wait⟩ := by
  have b1 := (((h.bx.set 2 (y * 3) rfl (.int .u8 m.t)).set 2 (y * 3 + 1) rfl (.int .i64 m.x)).set 2 (y * 3 + 2) rfl (.int .i64 m.y)).set 4 y rfl (.bool true)
  rw [mvs_set, bools_set] at b1
  refine ⟨b1, (((h.mp.setCell _ _).setCell _ _).setCell _ _).setCell _ _, (((h.q.set (by simp) _ _).set (by simp) _ _).set (by simp) _ _).set (by simp) _ _, ⟨by simp [h.ok.out], by simp [h.ok.known], h.ok.wait, fun x hx => ?_⟩⟩
  rcases List.mem_or_eq_of_mem_set hx with h1 | rfl
  · exact h.ok.t x h1
  · exact hm
/-- Its cell is put into the queue. -/
theorem RelAt.push {w wr w' : World} {a b : Int} {l : List Cr} {A : Option Addr} {n cc k M N N4 N5 go gk : Nat} {v v' : Value} {s : RS} (h : RelAt w a b l A n cc k M N N4 N5 go gk v wr s) (y : Nat) (hy : y < k)
    (hq : QAt w' w.heap.size [N, N4, N5, go, gk] v' (s.wait ++ [y])) (hw : (∃ g j, w.heap.size ≤ g ∧ (∀ x ∈ [N, N4, N5, go, gk], x ≠ g) ∧ w' = wr.setCell ⟨g, j, none⟩ (.int .i64 (y : Nat))) ∨ ∃ o, w' = wr.drew.alloc o) :
    RelAt w a b l A n cc k M N N4 N5 go gk v' w' ⟨s.out, s.known, s.wait ++ [y]⟩ := by
  have hok : RsOk k ⟨s.out, s.known, s.wait ++ [y]⟩ := ⟨h.ok.out, h.ok.known, fun i hi => by
    rcases List.mem_append.1 hi with h1 | h1
    · exact h.ok.wait i h1
    · have : i = y := by simpa using h1
      subst this; exact hy, h.ok.t⟩
  rcases hw with ⟨g, j, hg, hne, rfl⟩ | ⟨o, rfl⟩
  · refine ⟨h.bx.setOther hg (fun i x hx => hne _ ?_) j _, h.mp.setCell _ _, hq, hok⟩
    match i with
    | 0 => simp [relL] at hx; subst hx; simp
    | 1 => simp [relL] at hx; subst hx; simp
    | 2 => simp [relL] at hx; subst hx; simp
    | 3 => simp [relL] at hx; subst hx; simp
    | 4 => simp [relL] at hx; subst hx; simp
    | i + 5 => simp [relL] at hx
  · exact ⟨h.bx.drew.other o, h.mp.drew.below ((Below.refl wr.drew.heap.size wr.drew).alloc (Nat.le_refl _) o) h.mp.lt, hq, hok⟩

set_option maxRecDepth 100000 in
set_option maxHeartbeats 8000000 in
theorem relative_ok (a b : Int) (A : Option Addr) (l : List Cr) (n cc : Nat) (w : World) (hp : OkPat a b l) (hn : n = l.length) (h : Rd w A 3 n (crs l)) (hl : n ≤ 1000000) (hQ : Qf w) (hT : Tn w) :
    Calls Tryz.prog 185 #[.agg #[.int .i64 a, .int .i64 b, .slice A n cc]] w (RelRet (relF a b l) w) := by
  obtain ⟨F, hF⟩ : ∃ F, relF a b l = F := ⟨_, rfl⟩
  rw [hF]
  unfold relF at hF
  obtain ⟨k1, k2, k3⟩ := countN_int hp.sheet
  have hcount := fun w => count_any a b w hp.sheet
  have hcr := fun (w' : World) (hb : Below w.heap.size w w') => creased_ok a b A l n cc w' hn (h.below hb) hl
  have hnb := fun id e w h => sheetNeighbour_any a b id e w hp.sheet h
  obtain ⟨k, hk⟩ : ∃ k, countN a b = k := ⟨_, rfl⟩
  rw [hk] at hF k1 k2 k3 hcount
  have HCR := Lib.hid hcr
  have HCOUNT := Lib.hid hcount
  have HNB := Lib.hid hnb
  have HF := Lib.hid hF
  have HP := Lib.hid hp
  have HQ := Lib.hid hQ
  have HT := Lib.hid hT
  have HK1 := Lib.hid k1
  have mk1 := fun W => make_mvs k k3 W
  have mk2 := fun W => make_bools k k3 W
  have H := (Bx.start w).new #[.int .i64 a, .int .i64 b, .slice A n cc] 66 rfl
  clear hp hn h hl hQ hT hF hk hcount hcr hnb k1
  go_enter Tryz.func185, Tryz.ntmps185
  go_upto_region 1 with fail
  obtain ⟨W, hW⟩ : ∃ W, W = w.alloc (.cells #[.int .i64 a, .int .i64 b, .slice A n cc] 66) := ⟨_, rfl⟩
  rw [← hW] at H ⊢
  obtain ⟨N, hN⟩ : ∃ N, N = w.heap.size := ⟨_, rfl⟩
  rw [← hN] at H ⊢
  have HNN := Lib.hid hN
  clear hW hN
  obtain ⟨⟨a0, a1, a2⟩, _⟩ := blk3 (H.blk 0 _ _ _ rfl)
  go_wp2_with fail
  refine (HCR.out _ H.below).mono ?_
  rintro e w2 ⟨M, rfl, hM1, hM2, hb⟩
  have H2 := H.call hb
  clear a0 a1 a2 hb H
  obtain ⟨N4, hN4⟩ : ∃ p, w2.heap.size = p := ⟨_, rfl⟩
  have H3 := H2.new #[.map (some M)] 351 hN4
  have hM3 := hM2.below ((Below.refl w2.heap.size w2).alloc (Nat.le_refl _) (.cells #[.map (some M)] 351)) hM2.lt
  go_upto_region 2 with fail
  obtain ⟨W3, hW3⟩ : ∃ W, W = w2.alloc (.cells #[.map (some M)] 351) := ⟨_, rfl⟩
  rw [← hW3] at H3 hM3 ⊢
  clear hW3 hN4 H2 hM2
  obtain ⟨⟨a0, a1, a2⟩, _⟩ := blk3 (H3.blk 0 _ _ _ rfl)
  go_wp2_with fail
  refine (HCOUNT.out _).mono ?_
  rintro e w4 ⟨rfl, hb⟩
  have H4 := H3.call hb
  have hM4 := hM3.below hb hM3.lt
  clear a0 a1 a2 hb H3 hM3
  have j3 : (k : Int).toNat = k := Int.toNat_natCast k
  go_upto_region 3 with fail
  obtain ⟨go, hgo⟩ : ∃ p, w4.heap.size = p := ⟨_, rfl⟩
  obtain ⟨N5, hN5⟩ : ∃ p, go + 1 = p := ⟨_, rfl⟩
  have H5 := H4.new (mvsV (List.replicate k mv0)).toArray 68 hgo
  have hM5 := hM4.below ((Below.refl w4.heap.size w4).alloc (Nat.le_refl _) (.cells (mvsV (List.replicate k mv0)).toArray 68)) hM4.lt
  have hz5 : (w4.alloc (.cells (mvsV (List.replicate k mv0)).toArray 68)).heap.size = N5 := by rw [← hN5, ← hgo]; simp
  rw [hgo, hN5]
  obtain ⟨W5, hW5⟩ : ∃ W, W = w4.alloc (.cells (mvsV (List.replicate k mv0)).toArray 68) := ⟨_, rfl⟩
  rw [← hW5] at H5 hM5 hz5 ⊢
  have H6 := H5.new #[.slice (some ⟨go, 0, none⟩) k k] 135 hz5
  have hM6 := hM5.below ((Below.refl W5.heap.size W5).alloc (Nat.le_refl _) (.cells #[.slice (some ⟨go, 0, none⟩) k k] 135)) hM5.lt
  obtain ⟨W6, hW6⟩ : ∃ W, W = W5.alloc (.cells #[.slice (some ⟨go, 0, none⟩) k k] 135) := ⟨_, rfl⟩
  rw [← hW6] at H6 hM6 ⊢
  have c5 := cell_of_row W6 N5 0 _ _ (0, 0) (H6.blk 3 _ _ _ rfl)
  simp only [List.getElem?_toArray, List.getElem?_cons_zero] at c5
  clear hW6 hW5 hz5 hgo hN5 H4 H5 hM4 hM5 mk1
  obtain ⟨gk, hgk⟩ : ∃ p, W6.heap.size = p := ⟨_, rfl⟩
  have H7 := H6.new (boolsV (List.replicate k false)).toArray 4 hgk
  have hM7 := hM6.below ((Below.refl W6.heap.size W6).alloc (Nat.le_refl _) (.cells (boolsV (List.replicate k false)).toArray 4)) hM6.lt
  go_upto_region 4 with fail
  obtain ⟨W7, hW7⟩ : ∃ W, W = W6.alloc (.cells (boolsV (List.replicate k false)).toArray 4) := ⟨_, rfl⟩
  rw [← hW7] at H7 hM7 ⊢
  have hb7 := H7.blk 4 _ _ _ rfl
  have c7 : W7.cell? ⟨gk, 0, none⟩ = some (.bool false) := by
    rw [cell_of_row W7 gk 0 _ _ (0, 0) hb7]
    obtain ⟨j, rfl⟩ : ∃ j, k = j + 1 := ⟨k - 1, by omega⟩
    rfl
  have z7 : W7.frozen? ⟨gk, 0, none⟩ = false := by simp [World.frozen?, hb7]
  have q7 : (0 : Int) < k := by omega
  have H8 := H7.set 4 0 rfl (.bool true)
  have hM8 := hM7.setCell ⟨gk, 0, none⟩ (.bool true)
  rw [bools_set] at H8
  have ek : (List.replicate k false).set 0 true = true :: List.replicate (k - 1) false := by
    obtain ⟨j, rfl⟩ : ∃ j, k = j + 1 := ⟨k - 1, by omega⟩
    rfl
  rw [ek] at H8
  have H9 : Bx w (relL a b A n cc k M N N4 N5 go gk ⟨List.replicate k mv0, true :: List.replicate (k - 1) false, [0]⟩) (W7.setCell ⟨gk, 0, none⟩ (.bool true)) := H8
  clear H8
  clear hW7 H6 hM6 c5 ek hb7 hM7 mk2 hgk
  go_upto_region 6 with fail
  obtain ⟨W8, hW8⟩ : ∃ W, W = W7.setCell ⟨gk, 0, none⟩ (.bool true) := ⟨_, rfl⟩
  rw [← hW8] at H9 hM8 ⊢
  clear hW8
  have H10 := H9.other (.cells #[.int .i64 0] 3)
  have hM10 := hM8.below ((Below.refl W8.heap.size W8).alloc (Nat.le_refl _) (.cells #[.int .i64 0] 3)) hM8.lt
  have hq10 : QAt (W8.alloc (.cells #[.int .i64 0] 3)) w.heap.size [N, N4, N5, go, gk] (.slice (some ⟨W8.heap.size, 0, none⟩) 1 1) [0] :=
    ⟨W8.heap.size, 0, 1, #[.int .i64 0], rfl, H9.below.size, fun x hx => by
      simp at hx
      rcases hx with rfl | rfl | rfl | rfl | rfl
      · exact Nat.ne_of_lt (H9.lt 0 rfl)
      · exact Nat.ne_of_lt (H9.lt 1 rfl)
      · exact Nat.ne_of_lt (H9.lt 3 rfl)
      · exact Nat.ne_of_lt (H9.lt 2 rfl)
      · exact Nat.ne_of_lt (H9.lt 4 rfl), heap_alloc_new W8 _, by simp, by simp, fun i hi => by
      have : i = 0 := by simpa using hi
      subst this; rfl⟩
  have hst : RelAt w a b l A n cc k M N N4 N5 go gk (.slice (some ⟨W8.heap.size, 0, none⟩) 1 1) (W8.alloc (.cells #[.int .i64 0] 3)) ⟨List.replicate k mv0, true :: List.replicate (k - 1) false, [0]⟩ :=
    ⟨H10, hM10, hq10, ⟨by simp, by simp; omega, fun i hi => by simp at hi; omega, fun m hm => by rw [List.eq_of_mem_replicate hm]; exact (by decide : 0 ≤ 255)⟩⟩
  have hmm : (⟨List.replicate k mv0, true :: List.replicate (k - 1) false, [0]⟩ : RS).mm ≤ k + 1 := by simp [RS.mm, unk]
  clear H9 hM8 H10 hM10 hq10
  obtain ⟨g8, hg8⟩ : ∃ p, W8.heap.size = p := ⟨_, rfl⟩
  rw [hg8] at hst
  go_upto_region 7 with fail
  clear HCR HCOUNT c7 z7 q7 hg8 j3
  have HOM := Lib.hid hmm
  have HST := Lib.hid hst
  clear hmm hst H7
  go_loopw [8] (fun v wr => ∃ (fuel : Nat) (s : RS), RelAt w a b l A n cc k M N N4 N5 go gk v wr s ∧ s.mm ≤ fuel ∧ fuel ≤ k + 1 ∧ Hid (relGo a b l fuel s = F)) (fun v wr => falses wr gk + lenV v)
  case atStart => exact ⟨k + 1, _, HST.out, HOM.out, Nat.le_refl _, HF⟩
  case round =>
    obtain ⟨fuel, s, hs, hmm, hfu, HG⟩ := hrel
    obtain ⟨out, kn, wt⟩ := s
    have hmq := hs.mm
    cases wt with
    | nil =>
      obtain ⟨g, o, c, cw, rfl, _⟩ := hs.q
      have hG : some out = F := by
        have := HG.out
        cases fuel with
        | zero => exact this
        | succ f => exact this
      have e5 := cell_of_row wr N5 0 _ _ (0, 0) (hs.bx.blk 3 _ _ _ rfl)
      simp only [List.getElem?_toArray, List.getElem?_cons_zero] at e5
      have HE := Lib.hid hs
      have hG' := Lib.hid hG
      clear hs hG hmq hmm HG
      go_wp2_with fail
      go_ret2
      rw [← hG'.out]
      have hk : out.length = k := HE.out.ok.out
      exact ⟨HE.out.bx.below, go, by rw [hk]; rfl, HE.out.bx.lo 2 _ _ _ rfl, HE.out.bx.blk 2 _ _ _ rfl⟩
    | cons x r =>
      obtain ⟨g, o, c, rfl, hc, hcell, hq'⟩ := hs.q.head
      have hx : x < k := hs.ok.wait x (by simp)
      obtain ⟨f, rfl⟩ : ∃ f, fuel = f + 1 := ⟨fuel - 1, by have : (⟨out, kn, x :: r⟩ : RS).mm = unk kn + (r.length + 1) := rfl; omega⟩
      obtain ⟨B, hB⟩ : ∃ B, unk kn + r.length = B := ⟨_, rfl⟩
      have hB1 : (⟨out, kn, x :: r⟩ : RS).mm = B + 1 := by rw [← hB]; rfl
      have hB2 : (⟨out, kn, r⟩ : RS).mm = B := hB
      have HG1 : Hid ((relRem a b l x (3 - 0) ⟨out, kn, r⟩).bind (relGo a b l f) = F) := Lib.hid (by rw [Nat.sub_zero, ← relStep_rem]; exact HG.out)
      have HS2 := Lib.hid (fun sv (hv : QAt wr w.heap.size [N, N4, N5, go, gk] sv r) => (⟨hs.bx, hs.mp, hv, ⟨hs.ok.out, hs.ok.known, fun i hi => hs.ok.wait i (List.mem_cons_of_mem _ hi), hs.ok.t⟩⟩ : RelAt w a b l A n cc k M N N4 N5 go gk sv wr ⟨out, kn, r⟩))
      have HB := Lib.hid (⟨hB1, hB2, hmm, hmq⟩ : _ ∧ _ ∧ _ ∧ _)
      have p1 : (0 : Int) < (r.length : Int) + 1 := by omega
      have p2 : (1 : Int) ≤ (r.length : Int) + 1 := by omega
      have hqA : c = 1 → QAt wr w.heap.size [N, N4, N5, go, gk] (.slice (some ⟨g, o, none⟩) r.length 0) r := fun hc1 => by
        have hr0 : r = [] := List.length_eq_zero_iff.1 (by omega)
        subst hr0
        obtain ⟨g', o', c', cw, he, h2, h3, h4, h5, h6, h7⟩ := hq'
        injection he with he1 he2 he3
        injection he1 with he1
        injection he1 with he1 _ _
        subst he1
        exact ⟨g, o, 0, cw, rfl, h2, h3, h4, Nat.le_refl _, by
          have := (Array.getElem?_eq_some_iff.1 (cell_size h4 hcell)).1
          omega, fun i hi => absurd hi (by simp)⟩
      have HQA := Lib.hid hqA
      have HQB := Lib.hid hq'
      clear hs HG hq' hB1 hB2 hmm hmq hqA
      go_upto_region 9 with fail
      go_cut [8] from 27 to 34 (fun s8 wx => wr = wx ∧ QAt wr w.heap.size [N, N4, N5, go, gk] s8 r)
      case first =>
        go_wp2_with fail
        all_goals go_meet
        all_goals refine ⟨rfl, ?_⟩
        · exact HQA.out (by assumption)
        · exact HQB.out
      case rest =>
      obtain ⟨rfl, hv⟩ := hcut
      have HS3 := Lib.hid (HS2.out _ hv)
      clear HS2 hv HQA HQB hcell p1 p2
      go_wp2_with fail
      go_loopw [35, 8] (fun i v wr => ∃ (e : Nat) (s : RS), e ≤ 3 ∧ i = .int .u8 e ∧ RelAt w a b l A n cc k M N N4 N5 go gk v wr s ∧ s.mm ≤ B ∧ Hid ((relRem a b l x (3 - e) s).bind (relGo a b l f) = F)) (fun i _ _ => 3 - (intOf i).toNat)
      case atStart => exact ⟨0, _, by omega, rfl, HS3.out, Nat.le_of_eq HB.out.2.1, HG1⟩
      case round =>
        obtain ⟨e, s, he, rfl, hs, hsB, HG⟩ := hrel
        by_cases h3 : e < 3
        · have hrem : relRem a b l x (3 - e) s = (relE a b l x e s).bind (relRem a b l x (3 - (e + 1))) := by
            have : e = 0 ∨ e = 1 ∨ e = 2 := by omega
            rcases this with rfl | rfl | rfl
            · rfl
            · rfl
            · rfl
          have hG := HG.out
          rw [hrem] at hG
          clear hrem HG
          obtain ⟨⟨a0, a1, a2⟩, _⟩ := blk3 (hs.bx.blk 0 _ _ _ rfl)
          have HS := Lib.hid hs
          have HSB := Lib.hid hsB
          have q1 : (e : Int) < 3 := by omega
          have q2 : (e : Int) ≤ 255 := by omega
          have hnb := HNB.out x e
          have hnbl := nbI_lt (i := (x : Int)) (e := (e : Int)) HP.out.sheet
          have hbad := relE_bad (a := a) (b := b) (l := l) (id := x) (e := e) (s := s)
          have hkn := fun y => relE_known (a := a) (b := b) (l := l) (id := x) (e := e) (y := y) (s := s)
          have hnew := fun y => relE_new (a := a) (b := b) (l := l) (id := x) (e := e) (y := y) (s := s)
          obtain ⟨⟨nn, er⟩, hnz⟩ : ∃ z, nbI a b x e = z := ⟨_, rfl⟩
          rw [hnz] at hnb hnbl hbad hkn hnew
          have HRE := Lib.hid (⟨hbad, hkn, hnew⟩ : _ ∧ _ ∧ _)
          have HNX := Lib.hid hnb
          have HG := Lib.hid hG
          clear hs hsB hG hnb hnz hbad hkn hnew
          go_wp2_with fail
          refine (HNX.out _ (by omega) (HQ.out.below HS.out.bx.below).qt).mono ?_
          rintro en w2 ⟨rfl, hb2⟩
          have HS2 := Lib.hid (HS.out.call hb2)
          clear HNX HS hb2
          by_cases her : er = 0
          · subst her
            obtain ⟨y, rfl⟩ : ∃ y : Nat, (y : Int) = nn := ⟨nn.toNat, Int.toNat_of_nonneg (hnbl rfl).1⟩
            have hyk : y < k := by have h1 := (hnbl rfl).2; have h2 := HK1.out; omega
            have hkn := HRE.out.2.1 y rfl
            have hnew := HRE.out.2.2 y rfl
            have HAC := Lib.hid fun (w' : World) (h : RelAt w a b l A n cc k M N N4 N5 go gk u8 w' s) => across_any a b l s.out x e N N4 N5 M go k w' HP.out (HQ.out.below h.bx.below) (HT.out.below h.bx.below) h.ok.out.symm hx (by omega) h.ok.t (blk3 (h.bx.blk 0 _ _ _ rfl)).1.1 (blk3 (h.bx.blk 0 _ _ _ rfl)).1.2.1 (cell_of_row w' N4 0 _ _ (0, 0) (h.bx.blk 1 _ _ _ rfl)) h.mp (cell_of_row w' N5 0 _ _ (0, 0) (h.bx.blk 3 _ _ _ rfl)) (h.bx.range 2 rfl)
            have hmt := across_t a b l s.out x e HS2.out.ok.t
            obtain ⟨⟨mt, mx, my⟩, hm⟩ : ∃ z, acrossF a b l s.out x e = z := ⟨_, rfl⟩
            rw [hm] at hkn hnew HAC hmt
            have HR2 := Lib.hid (⟨hkn, hnew⟩ : _ ∧ _)
            clear hm hnbl hkn hnew HRE
            unfold intV
            dsimp only
            clear a0 a1 a2
            go_wp2_with fail
            refine (HAC.out _ HS2.out).mono ?_
            rintro en3 w3 ⟨rfl, hb3⟩
            have hs4 := (HS2.out.call hb3).call ((Below.refl w3.heap.size w3).alloc (Nat.le_refl _) (.cells #[.int .u8 mt, .int .i64 mx, .int .i64 my] 68))
            have hP := heap_alloc_new w3 (.cells #[.int .u8 mt, .int .i64 mx, .int .i64 my] 68)
            have hqP := ((HS2.out.call hb3).q.avoid (Nat.le_refl w3.heap.size)).below ((Below.refl w3.heap.size w3).alloc (Nat.le_refl _) (.cells #[.int .u8 mt, .int .i64 mx, .int .i64 my] 68))
            have hPg : go ≠ w3.heap.size := Nat.ne_of_lt ((HS2.out.call hb3).bx.lt 2 rfl)
            have hPk : gk ≠ w3.heap.size := Nat.ne_of_lt ((HS2.out.call hb3).bx.lt 4 rfl)
            clear HAC HS2 hb3
            unfold Mv.v
            go_upto_region 16 with fail
            obtain ⟨P, hPP⟩ : ∃ p, w3.heap.size = p := ⟨_, rfl⟩
            obtain ⟨W4, hW4⟩ : ∃ W, W = w3.alloc (.cells #[.int .u8 mt, .int .i64 mx, .int .i64 my] 68) := ⟨_, rfl⟩
            rw [hPP] at hP hqP hPg hPk ⊢
            rw [← hW4] at hs4 hP hqP ⊢
            clear hPP hW4
            have hyo : y < s.out.length := by rw [hs4.ok.out]; exact hyk
            obtain ⟨o0, o1, o2⟩ := mvs_at (hs4.bx.range 2 rfl) y hyo
            obtain ⟨⟨d0, d1, d2⟩, dz⟩ := blk3 hP
            have hgk : W4.cell? ⟨gk, y, none⟩ = some (.bool (s.known.getD y false)) := by
              have hyn : y < s.known.length := by rw [hs4.ok.known]; exact hyk
              rw [cell_of_row W4 gk y _ _ (0, 0) (hs4.bx.blk 4 _ _ _ rfl)]
              simp [boolsV, List.getD, hyn]
            have e5 := cell_of_row W4 N5 0 _ _ (0, 0) (hs4.bx.blk 3 _ _ _ rfl)
            simp only [List.getElem?_toArray, List.getElem?_cons_zero] at e5
            obtain ⟨kb, hkb⟩ : ∃ b, s.known.getD y false = b := ⟨_, rfl⟩
            rw [hkb] at hgk
            have y1 : (y : Int) < (k : Int) := by omega
            cases kb with
            | true =>
              have hR := HR2.out.1 hkb
              have hgd : s.out.getD y mv0 = s.out[y] := by simp [List.getD, hyo]
              rw [hgd] at hR
              obtain ⟨⟨ot, ox, oy⟩, ho⟩ : ∃ z, s.out[y] = z := ⟨_, rfl⟩
              rw [ho] at hR o0 o1 o2
              have HS4 := Lib.hid hs4
              clear hs4 hP dz HR2 hkb ho hgd hmt hqP hPg hPk
              go_upto_region 19 with fail
              by_cases hq : (⟨ot, ox, oy⟩ : Mv) = ⟨mt, mx, my⟩
              · injection hq with hq1 hq2 hq3
                subst hq1 hq2 hq3
                rw [if_pos rfl] at hR
                have HG2 : Hid ((relRem a b l x (3 - (e + 1)) s).bind (relGo a b l f) = F) := Lib.hid (by
                  have h := HG.out
                  rw [hR] at h
                  exact h)
                clear hR HG
                go_quiet (fail)
                have hs5 := HS4.out.call (below_drewN (Below.refl W4.heap.size W4) nq)
                obtain ⟨W9, hW9⟩ : ∃ W, W = W4.drewN nq := ⟨_, rfl⟩
                rw [← hW9] at hs5 ⊢
                have HS5 := Lib.hid hs5
                clear hW9 d0 d1 d2 o0 o1 o2 hgk e5 HS4 hs5
                go_wp2_with fail
                exact ⟨⟨e + 1, s, by omega, by go_num, HS5.out, HSB.out, HG2⟩, by simp [intOf]; omega⟩
              · have hcmp : ∀ (p q : Result Next), (if ((ot : Nat) : Int) = (mt : Int) then if ox = mx then if oy = my then p else q else q else q) = q := fun p q => by
                  split
                  · rename_i h1
                    split
                    · rename_i h2
                      split
                      · rename_i h3
                        exact absurd (by rw [Int.ofNat.inj h1, h2, h3]) hq
                      · rfl
                    · rfl
                  · rfl
                rw [if_neg hq] at hR
                have hF : none = F := by
                  have h := HG.out
                  rw [hR] at h
                  exact h
                clear hq hR HG
                go_quiet (fail)
                have hs5 := HS4.out.call (below_drewN (Below.refl W4.heap.size W4) nq)
                obtain ⟨W9, hW9⟩ : ∃ W, W = W4.drewN nq := ⟨_, rfl⟩
                rw [← hW9] at hs5 ⊢
                have HS5 := Lib.hid hs5
                clear hW9 d0 d1 d2 o0 o1 o2 hgk e5 HS4 hs5 hcmp
                go_wp2_with fail
                go_ret2
                rw [← hF]
                exact ⟨HS5.out.bx.below, rfl⟩
            | false =>
              have hR := HR2.out.2 hkb hyo
              have HG2 : Hid ((relRem a b l x (3 - (e + 1)) ⟨s.out.set y ⟨mt, mx, my⟩, s.known.set y true, s.wait ++ [y]⟩).bind (relGo a b l f) = F) := Lib.hid (by
                have h := HG.out
                rw [hR] at h
                exact h)
              clear hR HR2 HG
              have hy3 : y * 3 + 3 ≤ (mvsV s.out).length := by rw [mvsV_len]; omega
              have th := hs4.bx.there 2 rfl
              simp only [List.size_toArray] at th
              have z0 := (th (y * 3) (by omega)).2
              have z1 := (th (y * 3 + 1) (by omega)).2
              have z2 := (th (y * 3 + 2) (by omega)).2
              have zk := (hs4.bx.there 4 rfl y (by simp [boolsV]; rw [hs4.ok.known]; exact hyk)).2
              simp only [Nat.zero_add] at z0 z1 z2 zk
              have HS4 := Lib.hid hs4
              have HKB := Lib.hid hkb
              have ngk : go ≠ gk := hs4.bx.ne 2 4 (by decide) rfl rfl
              have hmt' : (mt : Int) ≤ 255 := by omega
              clear hs4 dz hkb th hy3
              have HQP := Lib.hid (⟨hqP, hP⟩ : _ ∧ _)
              clear hqP hP
              go_upto_region 18 with fail
              have hs5 := HS4.out.put y ⟨mt, mx, my⟩ hmt
              dsimp only at hs5
              have hq5 := (((HQP.out.1.set (b := go) (by simp) (y * 3) (.int .u8 mt)).set (b := go) (by simp) (y * 3 + 1) (.int .i64 mx)).set (b := go) (by simp) (y * 3 + 2) (.int .i64 my)).set (b := gk) (by simp) y (.bool true)
              have hp5 := (Below.heap_setCell _ ⟨gk, y, none⟩ (.bool true) P (Ne.symm hPk)).trans ((Below.heap_setCell _ ⟨go, y * 3 + 2, none⟩ (.int .i64 my) P (Ne.symm hPg)).trans ((Below.heap_setCell _ ⟨go, y * 3 + 1, none⟩ (.int .i64 mx) P (Ne.symm hPg)).trans ((Below.heap_setCell W4 ⟨go, y * 3, none⟩ (.int .u8 mt) P (Ne.symm hPg)).trans HQP.out.2)))
              obtain ⟨W5, hW5⟩ : ∃ W, W = (((W4.setCell ⟨go, y * 3, none⟩ (.int .u8 mt)).setCell ⟨go, y * 3 + 1, none⟩ (.int .i64 mx)).setCell ⟨go, y * 3 + 2, none⟩ (.int .i64 my)).setCell ⟨gk, y, none⟩ (.bool true) := ⟨_, rfl⟩
              rw [← hW5] at hs5 hq5 hp5 ⊢
              clear hW5 HQP hPg hPk d0 d1 d2 o0 o1 o2 hgk e5 z0 z1 z2 zk
              have hs6 := hs5.call ((Below.refl W5.heap.size W5).alloc (Nat.le_refl _) (.cells #[.int .i64 y] 3))
              have hy6 : (W5.alloc (.cells #[.int .i64 y] 3)).cell? ⟨W5.heap.size, 0, none⟩ = some (.int .i64 (y : Nat)) := by
                rw [cell_of_row _ _ 0 _ _ (0, 0) (heap_alloc_new W5 _)]; rfl
              have hun := unk_set s.known y (by rw [HS4.out.ok.known]; exact hyk) HKB.out
              have hsb := HSB.out
              have hmq : s.mm = unk s.known + s.wait.length := rfl
              have hB1 := HB.out
              obtain ⟨v', w', hrun, hq', hw'⟩ := (hq5.below ((Below.refl W5.heap.size W5).alloc (Nat.le_refl _) (.cells #[.int .i64 y] 3))).push (by omega) hs6.bx.below.size (fun x hx => by
                simp at hx
                rcases hx with rfl | rfl | rfl | rfl | rfl | rfl
                · exact hs6.bx.lt 0 rfl
                · exact hs6.bx.lt 1 rfl
                · exact hs6.bx.lt 3 rfl
                · exact hs6.bx.lt 2 rfl
                · exact hs6.bx.lt 4 rfl
                · exact Nat.lt_of_lt_of_le (Array.getElem?_eq_some_iff.1 hp5).1 (by simp)) y W5.heap.size 1 hy6
              have hs7 := hs6.push y hyk (hq'.sub (by simp)) (hw'.imp (fun ⟨g, j, h1, h2, h3⟩ => ⟨g, j, h1, fun x hx => h2 x (List.mem_append_left _ hx), h3⟩) id)
              have hp6 := kept ((Below.refl W5.heap.size W5).alloc (Nat.le_refl _) (.cells #[.int .i64 y] 3)) hp5 (Array.getElem?_eq_some_iff.1 hp5).1
              have hp7 : w'.heap[P]? = some (.cells #[.int .u8 mt, .int .i64 mx, .int .i64 my] 68 (0, 0)) := by
                rcases hw' with ⟨g, j, _, h2, rfl⟩ | ⟨o, rfl⟩
                · exact (Below.heap_setCell _ ⟨g, j, none⟩ (.int .i64 (y : Nat)) P (h2 P (by simp))).trans hp6
                · exact kept ((Below.refl _ (W5.alloc (.cells #[.int .i64 y] 3)).drew).alloc (Nat.le_refl _) o) hp6 (Array.getElem?_eq_some_iff.1 hp6).1
              obtain ⟨⟨d0, d1, d2⟩, dz⟩ := blk3 hp7
              have hyo' : y < (s.out.set y ⟨mt, mx, my⟩).length := by simpa using hyo
              obtain ⟨o0, o1, o2⟩ := mvs_at (hs7.bx.range 2 rfl) y hyo'
              simp only [List.getElem_set_self] at o0 o1 o2
              have e5 := cell_of_row w' N5 0 _ _ (0, 0) (hs7.bx.blk 3 _ _ _ rfl)
              simp only [List.getElem?_toArray, List.getElem?_cons_zero] at e5
              have HS7 := Lib.hid hs7
              have HRUN := Lib.hid hrun
              have HMM : Hid ((⟨s.out.set y ⟨mt, mx, my⟩, s.known.set y true, s.wait ++ [y]⟩ : RS).mm ≤ B) := Lib.hid (by
                have e1 : (⟨s.out.set y ⟨mt, mx, my⟩, s.known.set y true, s.wait ++ [y]⟩ : RS).mm = unk (s.known.set y true) + (s.wait ++ [y]).length := rfl
                rw [e1, List.length_append, List.length_singleton]
                omega)
              clear hs5 hs6 hy6 hq' hw' hrun hun hmq hB1 hsb HS4 hs7 hp6 hp7 hp5 hq5 dz hyo'
              go_wp2_with (at_builtin; refine Lib.wpList_append_run _ rfl _ _ _ _ rfl _ _ rfl rfl _ _ HRUN.out ?_)
              go_quiet (fail)
              have hs8 := HS7.out.call (below_drewN (Below.refl w'.heap.size w') nq)
              obtain ⟨W9, hW9⟩ : ∃ W, W = w'.drewN nq := ⟨_, rfl⟩
              rw [← hW9] at hs8 ⊢
              have HS8 := Lib.hid hs8
              clear hW9 d0 d1 d2 o0 o1 o2 e5 HS7 hs8
              go_wp2_with fail
              exact ⟨⟨e + 1, _, by omega, by go_num, HS8.out, HMM.out, HG2⟩, by simp [intOf]; omega⟩
          · have HG2 : Hid ((relRem a b l x (3 - (e + 1)) s).bind (relGo a b l f) = F) := Lib.hid (by
              have h := HG.out
              rw [HRE.out.1 her] at h
              exact h)
            unfold intV
            dsimp only
            clear HG HRE hnbl a0 a1 a2
            go_wp2_with fail
            exact ⟨⟨e + 1, s, by omega, by go_num, HS2.out, HSB.out, HG2⟩, by simp [intOf]; omega⟩
        · have : e = 3 := by omega
          subst this
          have HE := Lib.hid hs
          have HSB := Lib.hid hsB
          clear hs hsB
          go_wp2_with fail
          have h1 := HE.out.mm
          have h2 := HSB.out
          have h3 := HB.out
          exact ⟨⟨f, s, HE.out, by omega, by omega, HG⟩, by omega⟩
end Go.Proofs.YtdkijcmhjeaofaaGreatDoor
namespace Go.Proofs.YtdkijcmhjeaofaaGreatDoor
open Ex Go.RowKit Go.Shelf

/-! Lists and places, forced. -/
noncomputable def lGet {α γ : Type} (l : List α) (d : α) (n : Nat) (k : α → γ) : γ :=
  List.rec (motive := fun _ => Nat → γ) (fun _ => k d) (fun x _ ih n => Nat.rec (motive := fun _ => γ) (k x) (fun m _ => ih m) n) l n
theorem lGet_eq {α γ : Type} (d : α) (k : α → γ) : ∀ (l : List α) (n : Nat), lGet l d n k = k (l.getD n d)
  | [], n => by simp [lGet, List.getD]
  | x :: l, 0 => by
    have e : lGet (x :: l) d 0 k = k x := rfl
    rw [e]; simp [List.getD]
  | x :: l, n + 1 => by
    have := lGet_eq d k l n
    have e : lGet (x :: l) d (n + 1) k = lGet l d n k := rfl
    rw [e, this]; simp [List.getD]
noncomputable def lSet {α γ : Type} (v : α) (l : List α) (n : Nat) (k : List α → γ) : γ :=
  List.rec (motive := fun _ => Nat → (List α → γ) → γ) (fun _ k => k []) (fun x l ih n k => Nat.rec (motive := fun _ => γ) (k (v :: l)) (fun m _ => ih m fun l' => k (x :: l')) n) l n k
theorem lSet_eq {α γ : Type} (v : α) : ∀ (l : List α) (n : Nat) (k : List α → γ), lSet v l n k = k (l.set n v)
  | [], n, k => rfl
  | x :: l, 0, k => rfl
  | x :: l, n + 1, k => by
    have e : lSet v (x :: l) (n + 1) k = lSet v l n (fun l' => k (x :: l')) := rfl
    rw [e, lSet_eq v l n]; rfl
noncomputable def lEnd {α γ : Type} (v : α) (l : List α) (k : List α → γ) : γ :=
  List.rec (motive := fun _ => (List α → γ) → γ) (fun k => k [v]) (fun x _ ih k => ih fun l' => k (x :: l')) l k
theorem lEnd_eq {α γ : Type} (v : α) : ∀ (l : List α) (k : List α → γ), lEnd v l k = k (l ++ [v])
  | [], _ => rfl
  | x :: l, k => by
    have e : lEnd v (x :: l) k = lEnd v l (fun l' => k (x :: l')) := rfl
    rw [e, lEnd_eq v l]; rfl
noncomputable def fMv {γ : Type} (m : Mv) (k : Mv → γ) : γ := Mv.rec (fun t x y => fNat t fun t => fInt x fun x => fInt y fun y => k ⟨t, x, y⟩) m
theorem fMv_eq {γ : Type} (m : Mv) (k : Mv → γ) : fMv m k = k m := by cases m; simp only [fMv, fNat_eq, fInt_eq]
noncomputable def mvEq (a b : Mv) : Bool := Nat.beq a.t b.t && (ieq a.x b.x && ieq a.y b.y)
theorem mvEq_eq (a b : Mv) : mvEq a b = decide (a = b) := by
  obtain ⟨t, x, y⟩ := a
  obtain ⟨t', x', y'⟩ := b
  unfold mvEq
  rw [ieq_eq, ieq_eq]
  by_cases h1 : t = t'
  · by_cases h2 : x = x'
    · by_cases h3 : y = y' <;> simp [h1, h2, h3]
    · simp [h2]
  · simp [h1]

noncomputable def acrossC {γ : Type} (a b : Int) (l : List Cr) (out : List Mv) (id e : Nat) (k : Mv → γ) : γ :=
  fInt (nameI a b id e).1 fun c => fInt (nameI a b id e).2.1 fun u => lGet out mv0 id fun o =>
    Bool.rec (k o) (fInt (lineS a b c u).1.1 fun lk => fInt (lineS a b c u).1.2 fun lc => fMv (moveL (lk, lc)).1 fun m => fMv (thenG m o).1 k) (isCr l c u)
theorem acrossC_eq {γ : Type} (a b : Int) (l : List Cr) (out : List Mv) (id e : Nat) (k : Mv → γ) : acrossC a b l out id e k = k (acrossF a b l out id e) := by
  unfold acrossC acrossF
  simp only [fInt_eq, lGet_eq, fMv_eq]
  cases isCr l (nameI a b id e).1 (nameI a b id e).2.1 <;> rfl
noncomputable def relEC (a b : Int) (l : List Cr) (id e : Nat) (s : RS) : Option RS :=
  fInt (nbI a b id e).2 fun er => Bool.rec (some s)
    (fInt (nbI a b id e).1 fun n => fNat n.toNat fun n => acrossC a b l s.out id e fun m => lGet s.known false n fun kn =>
      Bool.rec (lSet m s.out n fun out => lSet true s.known n fun kn => lEnd n s.wait fun wt => lGet out mv0 n fun o => Bool.rec none (some ⟨out, kn, wt⟩) (mvEq o m))
        (lGet s.out mv0 n fun o => Bool.rec none (some s) (mvEq o m)) kn) (ieq er 0)
theorem relEC_eq (a b : Int) (l : List Cr) (id e : Nat) (s : RS) : relEC a b l id e s = relE a b l id e s := by
  unfold relEC relE
  simp only [fInt_eq, fNat_eq, acrossC_eq, lGet_eq, lSet_eq, lEnd_eq, ieq_eq, mvEq_eq]
  by_cases h0 : (nbI a b id e).2 = 0
  · rw [if_neg (by simpa using h0)]
    simp only [h0, decide_true]
    cases hk : s.known.getD (nbI a b id e).1.toNat false with
    | true =>
      simp only [if_true]
      by_cases hm : s.out.getD (nbI a b id e).1.toNat mv0 = acrossF a b l s.out id e
      · rw [if_pos hm, decide_eq_true hm]
      · rw [if_neg hm, decide_eq_false hm]
    | false =>
      simp only [Bool.false_eq_true, if_false]
      by_cases hm : (s.out.set (nbI a b id e).1.toNat (acrossF a b l s.out id e)).getD (nbI a b id e).1.toNat mv0 = acrossF a b l s.out id e
      · rw [if_pos hm, decide_eq_true hm]
      · rw [if_neg hm, decide_eq_false hm]
  · rw [if_pos h0, decide_eq_false h0]
noncomputable def relGoC (a b : Int) (l : List Cr) (f : Nat) : RS → Option (List Mv) :=
  Nat.rec (motive := fun _ => RS → Option (List Mv)) (fun s => some s.out) (fun _ ih s => RS.rec (fun out known wait => List.rec (motive := fun _ => Option (List Mv)) (some out) (fun id r _ => fNat id fun id =>
    Option.rec none (fun s => Option.rec none (fun s => Option.rec none (fun s => ih s) (relEC a b l id 2 s)) (relEC a b l id 1 s)) (relEC a b l id 0 ⟨out, known, r⟩)) wait) s) f
theorem relGoC_eq (a b : Int) (l : List Cr) : ∀ (f : Nat) (s : RS), relGoC a b l f s = relGo a b l f s
  | 0, s => rfl
  | f + 1, ⟨out, known, wait⟩ => by
    cases wait with
    | nil => rfl
    | cons id r =>
      have e : relGoC a b l (f + 1) ⟨out, known, id :: r⟩ = fNat id fun id => (Option.rec none (fun s => Option.rec none (fun s => Option.rec none (fun s => relGoC a b l f s) (relEC a b l id 2 s)) (relEC a b l id 1 s)) (relEC a b l id 0 ⟨out, known, r⟩) : Option (List Mv)) := rfl
      rw [e, fNat_eq]
      simp only [relEC_eq, relGoC_eq a b l f]
      show _ = (relStep a b l id ⟨out, known, r⟩).bind (relGo a b l f)
      unfold relStep
      cases relE a b l id 0 ⟨out, known, r⟩ with
      | none => rfl
      | some s1 =>
        simp only [Option.bind_some]
        cases relE a b l id 1 s1 with
        | none => rfl
        | some s2 =>
          simp only [Option.bind_some]
          cases relE a b l id 2 s2 <;> rfl
noncomputable def repl {α : Type} (x : α) (n : Nat) : List α := Nat.rec [] (fun _ ih => x :: ih) n
theorem repl_eq {α : Type} (x : α) : ∀ n, repl x n = List.replicate n x
  | 0 => rfl
  | n + 1 => by
    have e : repl x (n + 1) = x :: repl x n := rfl
    rw [e, repl_eq x n]; rfl
noncomputable def relFC (a b : Int) (l : List Cr) : Option (List Mv) := fNat (countN a b) fun k => relGoC a b l (Nat.succ k) ⟨repl mv0 k, true :: repl false (Nat.sub k 1), [0]⟩
theorem relFC_eq (a b : Int) (l : List Cr) : relFC a b l = relF a b l := by
  unfold relFC relF
  rw [fNat_eq, relGoC_eq, repl_eq, repl_eq]; rfl

/-! A valid pattern, told by a Bool. -/
noncomputable def fitB (r : Cr) : Bool := (not (ilt r.c 0) && not (ilt 1024 r.c)) && ((not (ilt r.e 0) && not (ilt 255 r.e)) && (not (ilt r.k 0) && not (ilt 255 r.k)))
theorem fitB_ok {r : Cr} (h : fitB r = true) : r.fit := by
  unfold fitB at h
  simp only [ilt_eq, Bool.and_eq_true, Bool.not_eq_true', decide_eq_false_iff_not] at h
  exact ⟨⟨by omega, by omega⟩, ⟨by omega, by omega⟩, by omega, by omega⟩
noncomputable def ascB (l : List Cr) : Bool := List.rec (motive := fun _ => Bool) true (fun r l ih => List.rec (motive := fun _ => Bool) true (fun q _ _ => (ilt r.c q.c || (ieq r.c q.c && ilt r.e q.e)) && ih) l) l
theorem ascB_ok : ∀ {l : List Cr}, ascB l = true → l.Pairwise fun r q => ordU r.c r.e q.c q.e < 0
  | [], _ => .nil
  | [r], _ => by simp
  | r :: q :: l, h => by
    have h : ((ilt r.c q.c || (ieq r.c q.c && ilt r.e q.e)) && ascB (q :: l)) = true := h
    rw [Bool.and_eq_true] at h
    have ih := ascB_ok h.2
    have h1 : ordU r.c r.e q.c q.e < 0 := by
      have := h.1
      simp only [ilt_eq, ieq_eq, Bool.or_eq_true, Bool.and_eq_true, decide_eq_true_eq] at this
      unfold ordU
      split <;> omega
    refine List.Pairwise.cons (fun x hx => ?_) ih
    rcases List.mem_cons.1 hx with rfl | hx
    · exact h1
    · exact ordU_tr h1 ((List.pairwise_cons.1 ih).1 x hx)
noncomputable def nmB (a b : Int) (r : Cr) : Bool := ieq (nameI a b r.c r.e).1 r.c && (ieq (nameI a b r.c r.e).2.1 r.e && ieq (nameI a b r.c r.e).2.2 0)
theorem nmB_ok {a b : Int} {r : Cr} (h : nmB a b r = true) : nameI a b r.c r.e = (r.c, r.e, 0) := by
  unfold nmB at h
  simp only [ieq_eq, Bool.and_eq_true, decide_eq_true_eq] at h
  exact Prod.ext h.1 (Prod.ext h.2.1 h.2.2)
noncomputable def allB (a b : Int) (l : List Cr) : Bool := List.rec (motive := fun _ => Bool) true (fun r _ ih => (fitB r && (not (ilt r.k 1) && not (ilt 3 r.k)) && nmB a b r) && ih) l
theorem allB_ok {a b : Int} : ∀ {l : List Cr}, allB a b l = true → ∀ r ∈ l, r.fit ∧ isK r.k = true ∧ nameI a b r.c r.e = (r.c, r.e, 0)
  | [], _, r, hr => by simp at hr
  | x :: l, h, r, hr => by
    have h : ((fitB x && (not (ilt x.k 1) && not (ilt 3 x.k)) && nmB a b x) && allB a b l) = true := h
    rw [Bool.and_eq_true, Bool.and_eq_true, Bool.and_eq_true] at h
    rcases List.mem_cons.1 hr with rfl | hr
    · refine ⟨fitB_ok h.1.1.1, ?_, nmB_ok h.1.2⟩
      have := h.1.1.2
      simp only [ilt_eq, Bool.and_eq_true, Bool.not_eq_true', decide_eq_false_iff_not] at this
      unfold isK
      simp only [Bool.and_eq_true, decide_eq_true_eq]
      omega
    · exact allB_ok h.2 r hr
noncomputable def patB (a b : Int) (l : List Cr) (n : Nat) : Bool := okS a b && (allB a b l && (ascB l && Nat.ble n 1000000))
theorem patB_ok {a b : Int} {l : List Cr} {n : Nat} (hn : n = l.length) (h : patB a b l n = true) : OkPat a b l ∧ n ≤ 1000000 := by
  unfold patB at h
  simp only [Bool.and_eq_true] at h
  obtain ⟨h1, h2, h3, h4⟩ := h
  have h4 := Nat.le_of_ble_eq_true h4
  have h2 := allB_ok h2
  exact ⟨⟨h1, fun r hr => (h2 r hr).2.1, fun r hr => (h2 r hr).2.2, fun r hr => (h2 r hr).1, ascB_ok h3, by omega⟩, h4⟩

/-! Rows that a known call reads and makes. -/
/-- Creases, out of cells. -/
noncomputable def toCr1 (ih : List AV → Option (List Cr)) (l : List AV) : Option (List Cr) := match l with
  | [] => some []
  | .int .i64 c :: .int .u8 e :: .int .u8 k :: r => match ih r with
    | some l => some (⟨c, e, k⟩ :: l)
    | none => none
  | _ => none
noncomputable def toCrs (fuel : Nat) : List AV → Option (List Cr) :=
  Nat.rec (motive := fun _ => List AV → Option (List Cr)) (fun _ => none) (fun _ ih l => toCr1 ih l) fuel
theorem toCrs_ok {ρ : Rho} : ∀ {f : Nat} {vs : List AV} {l : List Cr} {xs : List Value}, toCrs f vs = some l → VRL ρ vs xs → xs = crs l
  | 0, _, _, _, h, _ => by cases h
  | f + 1, vs, l, xs, h, hv => by
    have h : toCr1 (toCrs f) vs = some l := h
    unfold toCr1 at h
    split at h
    · injection h with h; subst h
      simp only [VRL] at hv; subst hv; rfl
    · rename_i c e k r
      split at h
      · rename_i l' hl
        injection h with h; subst h
        simp only [VRL, VR] at hv
        obtain ⟨_, _, rfl, rfl, _, _, rfl, rfl, _, ys, rfl, rfl, hr⟩ := hv
        rw [toCrs_ok hl hr]; rfl
      · cases h
    · cases h

/-- A slice's header, and what it holds, as a known call finds it. -/
theorem slice_rd {ρ : Rho} {S : St} {w : World} (hw : WR ρ S w) {sz n : Nat} {v : AV} {x : Value} {l : List AV} (hn : lenAV v = some n) (h : aRead S sz n v = some l) (hv : VR ρ v x) (hs : ∀ s, v ≠ .str s) :
    ∃ A c xs, x = .slice A n c ∧ VRL ρ l xs ∧ Rd w A sz n xs := by
  have key : ∀ {id off b m : Nat} {l : List AV}, aRead.rdAt S id off (n * sz) = some l → ρ id = some (b, m) → ∃ xs, VRL ρ l xs ∧ Rd w (some ⟨b, off, none⟩) sz n xs := by
    intro id off b m l h hr
    unfold aRead.rdAt at h
    split at h
    · rename_i tr k e f hid
      obtain ⟨b', m', hr', c, fz, e1, e2, e3, hc, _⟩ := hw.blk id _ hid
      rw [hr] at hr'; injection hr' with hr'; injection hr' with q1 q2; subst q1; subst q2
      obtain ⟨xs, hx, hlen, hget⟩ := rd_ok hc h
      refine ⟨xs, hx, hlen, fun _ => ⟨b, off, rfl, hw.low _ _ _ hr, fun j u hj => ?_⟩⟩
      simp [World.cell?, e1, hget j u hj]
    · cases h
  unfold lenAV at hn
  split at hn
  · injection hn with hn; subst hn
    simp only [VR] at hv
    obtain ⟨b, m, hr, e⟩ := hv
    obtain ⟨xs, h1, h2⟩ := key h hr
    exact ⟨_, _, xs, e, h1, h2⟩
  · injection hn with hn; subst hn
    simp only [VR] at hv
    obtain ⟨b, m, c, hr, e, _⟩ := hv
    obtain ⟨xs, h1, h2⟩ := key h hr
    exact ⟨_, _, xs, e, h1, h2⟩
  · injection hn with hn; subst hn
    simp only [VR] at hv
    have h : some [] = some l := h
    injection h with h; subst h
    exact ⟨none, 0, [], hv, by simp [VRL], Rd.nil⟩
  · rename_i s; exact absurd rfl (hs s)
  · cases hn

/-- A fresh row of cells that a call has made. -/
theorem fresh_row {ρ : Rho} {S : St} {w w' : World} {K : Nat} (hw : WR ρ S w) (hK : K ≤ S.next) (hb : Below w.heap.size w w') {g : Nat} {cs : List AV} {xs : List Value} {t : TypeId} (hg : w.heap.size ≤ g)
    (hblk : w'.heap[g]? = some (Obj.cells xs.toArray t (0, 0))) (hx : ∀ σ, VRL σ cs xs) (hl : cs.length ≤ 1000000) (hlim : S.next + 1 < 1048575) :
    ∃ σ, WR σ ⟨S.heap.to S.next (.cells (wr cs .e 0) cs.length t true), S.next + 1⟩ w' ∧ Up K S ⟨S.heap.to S.next (.cells (wr cs .e 0) cs.length t true), S.next + 1⟩ ρ σ w ∧ Fr K S ρ w w' ∧ σ S.next = some (g, cs.length) := by
  have hnone := (hw.dom S.next (Nat.le_refl _)).1
  have hnoneS := (hw.dom S.next (Nat.le_refl _)).2
  have hglt : g < w'.heap.size := (Array.getElem?_eq_some_iff.1 hblk).1
  have hat : ∀ i A, (S.heap.to S.next (.cells (wr cs .e 0) cs.length t true)).at i = some A → (i = S.next ∧ A = .cells (wr cs .e 0) cs.length t true) ∨ (i ≠ S.next ∧ S.heap.at i = some A) := by
    intro i A hi
    rw [Tr.at_to _ _ _ _ (by omega)] at hi
    by_cases e : i = S.next
    · rw [if_pos e] at hi; injection hi with hi; exact .inl ⟨e, hi.symm⟩
    · rw [if_neg e] at hi; exact .inr ⟨e, hi⟩
  have hset : ∀ i p, (ρ.set S.next (g, cs.length)) i = some p → (i = S.next ∧ p = (g, cs.length)) ∨ (i ≠ S.next ∧ ρ i = some p) := by
    intro i p hi
    unfold Rho.set at hi
    by_cases e : i = S.next
    · rw [if_pos e] at hi; injection hi with hi; exact .inl ⟨e, hi.symm⟩
    · rw [if_neg e] at hi; exact .inr ⟨e, hi⟩
  have hle : ρ.le (ρ.set S.next (g, cs.length)) := Rho.le_set hnone
  refine ⟨ρ.set S.next (g, cs.length), ⟨fun i j b m n A B hi hj hA hB hri hrj => ?_, fun i hi => ?_, hlim, fun i b n hi => ?_, fun i B hi => ?_⟩, ⟨hle, Nat.le_succ _, fun i hi => ?_, fun i hi h0 => ?_, fun i b n A hA hl hr => ?_⟩, ⟨hb.os, hb.tape, hb.output, hb.size, fun b hlt _ => hb.block b hlt⟩, Rho.set_same _ _ _⟩
  · rcases hat i A hi with ⟨e1, _⟩ | ⟨e1, p1⟩ <;> rcases hat j B hj with ⟨e2, _⟩ | ⟨e2, p2⟩
    · rw [e1, e2]
    · rcases hset i _ hri with ⟨_, r1⟩ | ⟨r, _⟩
      · injection r1 with r1; subst r1
        rcases hset j _ hrj with ⟨r, _⟩ | ⟨_, r2⟩
        · exact absurd r e2
        · have := hw.low _ _ _ r2; omega
      · exact absurd e1 r
    · rcases hset j _ hrj with ⟨_, r1⟩ | ⟨r, _⟩
      · injection r1 with r1; subst r1
        rcases hset i _ hri with ⟨r, _⟩ | ⟨_, r2⟩
        · exact absurd r e1
        · have := hw.low _ _ _ r2; omega
      · exact absurd e2 r
    · rcases hset i _ hri with ⟨r, _⟩ | ⟨_, r1⟩
      · exact absurd r e1
      · rcases hset j _ hrj with ⟨r, _⟩ | ⟨_, r2⟩
        · exact absurd r e2
        · exact hw.inj i j b m n A B p1 p2 hA hB r1 r2
  · have hi : S.next + 1 ≤ i := hi
    constructor
    · unfold Rho.set; rw [if_neg (by omega)]; exact (hw.dom i (by omega)).1
    · show (S.heap.to S.next _).at i = none
      rw [Tr.at_to _ _ _ _ (by omega), if_neg (by omega)]; exact (hw.dom i (by omega)).2
  · rcases hset i _ hi with ⟨_, e⟩ | ⟨_, e⟩
    · injection e with e e2; omega
    · have := hw.low i b n e; have := hb.size; omega
  · rcases hat i B hi with ⟨e, e2⟩ | ⟨_, e2⟩
    · subst e; subst e2
      refine ⟨g, cs.length, Rho.set_same _ _ _, xs.toArray, (0, 0), hblk, by simpa using (hx ρ).length, Nat.le_refl _, fun j v hj => ?_, fun _ => rfl⟩
      obtain ⟨q1, q2⟩ := wr_e_at hl hj
      obtain ⟨x, h1, h2⟩ := (hx _).get j v q2
      exact ⟨q1, x, by simpa using h1, h2⟩
    · obtain ⟨b, n, h1, h2⟩ := hw.blk i B e2
      exact ⟨b, n, hle _ _ h1, by rw [hb.block b (hw.low i b n h1)]; exact BR.mono hle h2⟩
  · unfold Rho.set; rw [if_neg (by omega)]
  · show (S.heap.to S.next _).at i = none
    rw [Tr.at_to _ _ _ _ (by omega), if_neg (by omega)]; exact h0
  · rcases hat i A hA with ⟨e, _⟩ | ⟨e, p⟩
    · subst e
      rcases hset _ _ hr with ⟨_, e⟩ | ⟨r, _⟩
      · injection e with e; subst e; exact .inr ⟨hK, .inl hg⟩
      · exact absurd rfl r
    · rcases hset i _ hr with ⟨r, _⟩ | ⟨_, r⟩
      · exact absurd r e
      · exact .inl ⟨r, A, p, hl⟩

noncomputable def mvsA (l : List Mv) : List AV := List.rec [] (fun m _ ih => .int .u8 (.ofNat m.t) :: .int .i64 m.x :: .int .i64 m.y :: ih) l
theorem mvsA_vr (σ : Rho) : ∀ l : List Mv, VRL σ (mvsA l) (mvsV l)
  | [] => by show VRL σ [] []; simp only [VRL]
  | m :: l => by
    have e : mvsA (m :: l) = .int .u8 (.ofNat m.t) :: .int .i64 m.x :: .int .i64 m.y :: mvsA l := rfl
    have e2 : mvsV (m :: l) = .int .u8 m.t :: .int .i64 m.x :: .int .i64 m.y :: mvsV l := rfl
    rw [e, e2]
    simp only [VRL, VR]
    exact ⟨_, _, rfl, rfl, _, _, rfl, rfl, _, _, rfl, rfl, mvsA_vr σ l⟩
theorem mvsA_len : ∀ l : List Mv, (mvsA l).length = l.length * 3
  | [] => rfl
  | m :: l => by
    have e : mvsA (m :: l) = .int .u8 (.ofNat m.t) :: .int .i64 m.x :: .int .i64 m.y :: mvsA l := rfl
    rw [e]; simp only [List.length_cons, mvsA_len l]; omega
/-- A fresh row, as a call's result makes it. -/
noncomputable def rowC (S : St) (cs : List AV) (t : TypeId) (k : Nat → Nat → St → CRes) : CRes :=
  lenC cs fun n => fNat S.next fun nx => Bool.rec (.no [90]) (headC (wr cs .e 0) fun tr => headC (S.heap.to nx (.cells tr n t true)) fun h => fNat (Nat.succ nx) fun nx' => k nx n ⟨h, nx'⟩) (Nat.blt (Nat.succ nx) 1048575 && Nat.ble n 1000000)
theorem rowC_ok {S : St} {cs : List AV} {t : TypeId} {k : Nat → Nat → St → CRes} {v : AV} {S' : St} (h : rowC S cs t k = .ok v S') :
    k S.next cs.length ⟨S.heap.to S.next (.cells (wr cs .e 0) cs.length t true), S.next + 1⟩ = .ok v S' ∧ cs.length ≤ 1000000 ∧ S.next + 1 < 1048575 := by
  unfold rowC at h
  simp only [lenC_eq, fNat_eq, headC_eq] at h
  cases hc : (Nat.blt (Nat.succ S.next) 1048575 && Nat.ble cs.length 1000000) with
  | false => rw [hc] at h; cases h
  | true =>
    rw [hc] at h
    simp only [Bool.and_eq_true, Nat.blt_eq] at hc
    exact ⟨h, Nat.le_of_ble_eq_true hc.2, hc.1⟩

/-- places.relative. -/
noncomputable def xRel1 (a b : Int) (sl : AV) (S : St) : CRes := match sl with
    | .str _ => .no [91]
    | sl => match lenAV sl with
      | none => .no [92]
      | some n => fInt a fun a => fInt b fun b => fNat n fun n => match aRead S 3 n sl with
        | none => .no [93]
        | some cells => match toCrs (Nat.succ n) cells with
          | none => .no [94]
          | some l => match patB a b l n && Nat.beq l.length n, relFC a b l with
            | false, _ => .no [95]
            | true, none => .ok (.tup [.nilSl, .int .i64 11]) S
            | true, some ms => lenC ms fun m => rowC S (mvsA ms) 68 fun nx _ S' => .ok (.tup [.sl nx 0 m m, .int .i64 0]) S'
noncomputable def xRel : List AV → St → CRes := fun vs S => match vs with
  | [.agg [.int .i64 a, .int .i64 b, sl]] => xRel1 a b sl S
  | _ => .no [96]

/-- A known call with memory, beside others. -/
noncomputable def xtM (g : FuncId) (h : List AV → St → CRes) (xt : FuncId → List AV → St → CRes) : FuncId → List AV → St → CRes := fun f vs S => Bool.rec (xt f vs S) (h vs S) (Nat.beq f g)

theorem xRel_ok {W : World} {K : Nat} (hQ : Qf W) (hT : Tn W) {xt : FuncId → List AV → St → CRes} (hx : CallOk (Kept.zz W K) Tryz.prog xt) : CallOk (Kept.zz W K) Tryz.prog (xtM 185 xRel xt) := by
  intro g vs S v S' h ρ xs w hxs hw hK hz
  unfold xtM at h
  cases hg : Nat.beq g 185 with
  | false => rw [hg] at h; exact hx g vs S v S' h ρ xs w hxs hw hK hz
  | true =>
    rw [hg] at h
    have hg := Nat.eq_of_beq_eq_true hg
    subst hg
    have h : xRel vs S = .ok v S' := h
    have hz : Zz W K S ρ w := hz
    refine .inl ⟨by decide, enters_of Tryz.func185 (by kernel_rfl) rfl _, ?_⟩
    unfold xRel at h
    split at h
    · rename_i a b sl _
      unfold xRel1 at h
      split at h
      · cases h
      · rename_i hns
        split at h
        · cases h
        · rename_i n hn
          simp only [fInt_eq, fNat_eq] at h
          split at h
          · cases h
          · rename_i cells hcells
            split at h
            · cases h
            · rename_i l hl
              simp only [VRL, VR] at hxs
              obtain ⟨_, _, rfl, ⟨_, rfl, _, _, rfl, rfl, _, _, rfl, rfl, x, _, rfl, hsl, rfl⟩, rfl⟩ := hxs
              obtain ⟨A, c, ys, rfl, hy, hrd⟩ := slice_rd hw hn hcells hsl (fun s e => hns s e)
              have hys := toCrs_ok hl hy
              subst hys
              have hb := hz.below
              have key : (patB a b l n && Nat.beq l.length n) = true → Calls Tryz.prog 185 #[.agg #[.int .i64 a, .int .i64 b, .slice A n c]] w (RelRet (relF a b l) w) := by
                intro hp
                rw [Bool.and_eq_true] at hp
                have hnl := (Nat.eq_of_beq_eq_true hp.2).symm
                obtain ⟨h1, h2⟩ := patB_ok hnl hp.1
                exact relative_ok a b A l n c w h1 hnl hrd h2 (hQ.below hb) (hT.below hb)
              rw [relFC_eq] at h
              split at h
              · cases h
              · rename_i hp hr
                injection h with e1 e2; subst e1; subst e2
                refine (key hp).mono ?_
                rintro e w' ⟨hb', hret⟩
                rw [hr] at hret
                dsimp only at hret
                subst hret
                refine ⟨_, ρ, rfl, ?_, WR.of_below hw hb', Up.refl _ _ _ _, Fr.of_below hb'⟩
                simp only [VR, VRL]
                exact ⟨_, rfl, _, _, rfl, rfl, _, _, rfl, rfl, rfl⟩
              · rename_i ms hp hr
                rw [lenC_eq] at h
                obtain ⟨h1, h2, h3⟩ := rowC_ok h
                injection h1 with e1 e2; subst e1; subst e2
                refine (key hp).mono ?_
                rintro e w' ⟨hb', hret⟩
                rw [hr] at hret
                dsimp only at hret
                obtain ⟨g, rfl, hg, hblk⟩ := hret
                obtain ⟨σ, q1, q2, q3, q4⟩ := fresh_row hw hK hb' hg hblk (fun σ => mvsA_vr σ ms) h2 h3
                refine ⟨_, σ, rfl, ?_, q1, q2, q3⟩
                simp only [VR, VRL]
                exact ⟨_, rfl, _, _, rfl, ⟨_, _, q4, rfl⟩, _, _, rfl, rfl, rfl⟩
    · cases h
end Go.Proofs.YtdkijcmhjeaofaaGreatDoor
namespace Go.Proofs.YtdkijcmhjeaofaaGreatDoor
open Ex Go.RowKit

noncomputable def extK : FuncId → List AV → Option AV := fun _ _ => none
theorem extK_ok : ExtOk Tryz.prog extK := by
  intro g vs v h
  cases h
noncomputable def tabK : Tr Hdl := tabOf scalL
noncomputable def xt0 : FuncId → List AV → St → CRes := xtM 185 xRel (xtOf tabK)
noncomputable def scK : FuncId → List AV → Option AV := scOf extK tabK
noncomputable def runK (K : Nat) (xt : FuncId → List AV → St → CRes) (n : Nat) (g : FuncId) (vs : List AV) (S : St) : CRes := run K Tryz.prog extK xt (fun call => doDrawn K Tryz.prog scK call) n g vs S
/-- What is known of calls in the worlds that W grows into. -/
def Known1 (W : World) (xt : FuncId → List AV → St → CRes) : Prop := ∀ K, CallOk (Kept.zz W K) Tryz.prog xt
theorem xt0_ok {W : World} (hQ : Qf W) (hT : Tn W) : Known1 W xt0 := fun _ => xRel_ok hQ hT (xtOf_ok (scal_ok hQ hT))
noncomputable def goodK (m : MemR) (xt : FuncId → List AV → St → CRes) : Bool := m.good Tryz.prog extK scK xt 1000
theorem memK {W : World} (hQ : Qf W) (hT : Tn W) {m : MemR} {xt xt' : FuncId → List AV → St → CRes} (hx : Known1 W xt) (h : goodK m xt = true) (hx' : Known1 W xt') : Known1 W (memR m xt') :=
  memR_ok mixedP extK_ok (fun _ => scOf_ok extK_ok (scal_ok hQ hT)) hx h hx'
/-- A closed call that gives true. -/
noncomputable def isTrue (xt : FuncId → List AV → St → CRes) (g : FuncId) : Bool := match runK 0 xt 1000 g [] ⟨.e, 0⟩ with
  | .ok (.bool true) _ => true
  | _ => false
theorem isTrue_ok {xt : FuncId → List AV → St → CRes} {g : FuncId} (h : isTrue xt g = true) {w : World} (hQ : Qf w) (hT : Tn w) (hx : Known1 w xt) : Calls Tryz.prog g #[] w fun e w' => e = .returned (.bool true) ∧ Below w.heap.size w w' := by
  unfold isTrue at h
  split at h
  · rename_i S' hr
    have hw : WR (fun _ => none) ⟨.e, 0⟩ w := ⟨fun i j b m n A B h => (by rw [Tr.at_e] at h; cases h), fun i _ => ⟨rfl, Tr.at_e i⟩, by decide, fun i b n h => (by cases h), fun i B h => (by rw [Tr.at_e] at h; cases h)⟩
    have hc := run_sound2 (Z := Kept.zz w 0) mixedP extK_ok (scOf_ok extK_ok (scal_ok hQ hT)) (hx 0) 1000 g [] ⟨.e, 0⟩ (.bool true) S' hr (fun _ => none) [] w (by simp [VRL]) hw (Nat.le_refl _) ⟨fun i b m A _ h => (by rw [Tr.at_e] at h; cases h), Below.refl _ _⟩
    rcases hc with ⟨_, _, hc⟩ | ⟨y, b, m, _, hc, _⟩
    · refine hc.mono ?_
      rintro e w' ⟨x, σ, rfl, hx, _, _, hf⟩
      simp only [VR] at hx
      subst hx
      exact ⟨rfl, hf.os, hf.tape, hf.output, hf.size, fun k hk => hf.block k hk fun i n A _ hA => (by rw [Tr.at_e] at hA; cases hA)⟩
    · cases hc
  · cases h
end Go.Proofs.YtdkijcmhjeaofaaGreatDoor
