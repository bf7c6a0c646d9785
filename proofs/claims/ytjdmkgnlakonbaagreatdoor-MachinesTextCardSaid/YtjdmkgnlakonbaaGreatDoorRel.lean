/- The contract of places.relative at valid patterns. -/
import Derived.Test.YtjdmkgnlakonbaaGreatDoorRl
namespace Go.Proofs.YtjdmkgnlakonbaaGreatDoor
open Go.RowKit

def unk (kn : List Bool) : Nat := (kn.filter (fun b => !b)).length
theorem unk_set : ∀ (kn : List Bool) (n : Nat), n < kn.length → kn.getD n false = false → unk (kn.set n true) + 1 = unk kn
  | [], n, h, _ => by simp at h
  | b :: kn, 0, _, h => by
    simp at h; subst h; simp [unk]
  | b :: kn, n + 1, h, h0 => by
    have ih := unk_set kn n (by simpa using h) (by simpa using h0)
    unfold unk at ih ⊢
    cases b <;> simp <;> omega
def RS.mm (s : RS) : Nat := unk s.known + s.wait.length
structure RsOk (k : Nat) (s : RS) : Prop where
  out : s.out.length = k
  known : s.known.length = k
  wait : ∀ i ∈ s.wait, i < k
  t : ∀ m ∈ s.out, m.t ≤ 255
def relRem (a b : Int) (l : List Cr) (id : Nat) : Nat → RS → Option RS
  | 0, s => some s
  | j + 1, s => (relE a b l id (2 - j) s).bind (relRem a b l id j)
theorem relStep_rem (a b : Int) (l : List Cr) (id : Nat) (s : RS) : relStep a b l id s = relRem a b l id 3 s := by
  show ((relE a b l id 0 s).bind fun s => (relE a b l id 1 s).bind fun s => relE a b l id 2 s) = (relE a b l id 0 s).bind fun s => (relE a b l id 1 s).bind fun s => (relE a b l id 2 s).bind some
  cases relE a b l id 0 s with
  | none => rfl
  | some s1 =>
    simp only [Option.bind_some]
    cases relE a b l id 1 s1 with
    | none => rfl
    | some s2 =>
      simp only [Option.bind_some]
      cases relE a b l id 2 s2 <;> rfl
theorem thenG_t (x y : Mv) : (thenG x y).1.t ≤ 255 := by
  unfold thenG
  split
  · unfold thenM limM
    split
    · rename_i h
      have := (Mv.ok_iff.1 h).1
      exact Nat.le_trans (Nat.le_of_lt this) (by decide)
    · exact (by decide : 0 ≤ 255)
  · exact (by decide : 0 ≤ 255)
theorem across_t (a b : Int) (l : List Cr) (out : List Mv) (id e : Nat) (h : ∀ m ∈ out, m.t ≤ 255) : (acrossF a b l out id e).t ≤ 255 := by
  unfold acrossF
  split
  · exact thenG_t _ _
  · rw [List.getD_eq_getElem?_getD]
    cases ho : out[id]? with
    | none => exact (by decide : 0 ≤ 255)
    | some m => exact h m (List.mem_of_getElem? ho)
theorem nbI_lt {a b i e : Int} (hs : okS a b = true) (h : (nbI a b i e).2 = 0) : 0 ≤ (nbI a b i e).1 ∧ (nbI a b i e).1 < 4 * a * b := by
  unfold nbI at h ⊢
  split at h
  · cases h
  · rename_i h1
    rw [if_neg h1]
    split at h
    · rename_i h2
      rw [if_pos h2]
      have hq := nbr_bd (i / 4 % a) (i / 4 / a) (i % 4) e
      unfold idI at h ⊢
      split at h
      · rename_i h3
        rw [if_pos h3]
        obtain ⟨_, x1, x2, y1, y2⟩ := inS_iff.1 h3
        obtain ⟨z1, z2, z3⟩ := in_bd hs ⟨x1, x2⟩ ⟨y1, y2⟩
        have e0 : 4 * a * b = 4 * (a * b) := Int.mul_assoc _ _ _
        constructor
        · dsimp only; omega
        · dsimp only; omega
      · cases h
    · cases h
theorem countN_int {a b : Int} (hs : okS a b = true) : ((countN a b : Nat) : Int) = 4 * a * b ∧ 1 ≤ countN a b ∧ countN a b ≤ 1024 := by
  obtain ⟨m1, m2, m3, m4, m5, m6⟩ := mul_bd hs
  have e0 : 4 * a * b = 4 * (a * b) := Int.mul_assoc _ _ _
  unfold countN
  omega

/-- Bools as memory holds them. -/
def boolsV (l : List Bool) : List Value := l.map Value.bool
theorem bools_set (l : List Bool) (n : Nat) : (boolsV l).toArray.setIfInBounds n (.bool true) = (boolsV (l.set n true)).toArray := by
  simp [boolsV, List.map_set]
theorem mvs_set (l : List Mv) (n : Nat) (m : Mv) : (((mvsV l).toArray.setIfInBounds (n * 3) (.int .u8 m.t)).setIfInBounds (n * 3 + 1) (.int .i64 m.x)).setIfInBounds (n * 3 + 2) (.int .i64 m.y) = (mvsV (l.set n m)).toArray := by
  have hlen : ∀ l : List Mv, (mvsV l).length = l.length * 3 := fun l => by unfold mvsV; induction l with | nil => rfl | cons x l ih => simp [List.flatMap_cons, ih, mvCells_len]; omega
  have hat : ∀ (l : List Mv) (i f : Nat), i < l.length → f < 3 → (mvsV l)[i * 3 + f]? = (match l[i]? with | some m => m.cells[f]? | none => none) := fun l i f hi hf => by
    rw [List.getElem?_eq_getElem hi]
    exact flat_at Mv.cells 3 mvCells_len _ i f hi hf
  apply Array.ext'
  simp only [Array.toList_setIfInBounds]
  apply List.ext_getElem?
  intro j
  by_cases hj : j < l.length * 3
  · obtain ⟨i, f, hf, rfl⟩ : ∃ i f, f < 3 ∧ j = i * 3 + f := ⟨j / 3, j % 3, by omega, by omega⟩
    have hi : i < l.length := by omega
    rw [hat (l.set n m) i f (by simpa using hi) hf]
    simp only [List.getElem?_set, List.length_set, hlen]
    by_cases e : n = i
    · subst e
      rw [if_pos rfl, if_pos hi]
      have h3 : f = 0 ∨ f = 1 ∨ f = 2 := by omega
      rcases h3 with rfl | rfl | rfl
      · simp [Mv.cells]; omega
      · simp [Mv.cells]; omega
      · simp [Mv.cells]; omega
    · rw [if_neg e, if_neg (by omega), if_neg (by omega), if_neg (by omega), hat l i f hi hf]
  · rw [List.getElem?_eq_none (by simp [hlen]; omega), List.getElem?_eq_none (by simp [hlen]; omega)]
def falses (w : World) (g : Nat) : Nat := match w.heap[g]? with
  | some (.cells c _ _) => (c.toList.filter fun v => match v with | .bool false => true | _ => false).length
  | _ => 0
def lenV : Value → Nat
  | .slice _ n _ => n
  | _ => 0
theorem falses_eq {w : World} {g : Nat} {l : List Bool} {t : TypeId} (h : w.heap[g]? = some (.cells (boolsV l).toArray t (0, 0))) : falses w g = unk l := by
  unfold falses
  rw [h]
  clear h
  unfold unk boolsV
  induction l with
  | nil => rfl
  | cons b l ih =>
    cases b <;> simp at ih ⊢ <;> exact ih

theorem mvsV_len (l : List Mv) : (mvsV l).length = l.length * 3 := by
  unfold mvsV; induction l with | nil => rfl | cons x l ih => simp [List.flatMap_cons, ih, mvCells_len]; omega
theorem made_mv (k : Nat) : madeCells #[.int .u8 0, .int .i64 0, .int .i64 0] (k * 3) = (mvsV (List.replicate k mv0)).toArray := by
  apply Array.ext'
  apply List.ext_getElem?
  intro j
  by_cases hj : j < k * 3
  · obtain ⟨i, f, hf, rfl⟩ : ∃ i f, f < 3 ∧ j = i * 3 + f := ⟨j / 3, j % 3, by omega, by omega⟩
    have hi : i < k := by omega
    have h1 : (mvsV (List.replicate k mv0))[i * 3 + f]? = (((List.replicate k mv0)[i]'(by simpa using hi)).cells)[f]? := flat_at Mv.cells 3 mvCells_len _ i f (by simpa using hi) hf
    rw [h1]
    have h3 : f = 0 ∨ f = 1 ∨ f = 2 := by omega
    have hm : (i * 3 + f) % 3 = f := by omega
    simp [madeCells, hj, hm]
    rcases h3 with rfl | rfl | rfl
    · rfl
    · rfl
    · rfl
  · rw [List.getElem?_eq_none (by simp [madeCells]; omega), List.getElem?_eq_none (by simp [mvsV_len]; omega)]
theorem make_mvs (k : Nat) (hk : k ≤ 1024) (W : World) : (Instr.makeSlice 131 (.int .i64 k) (.int .i64 k)).run Tryz.prog W = .ok (.slice (some ⟨W.heap.size, 0, none⟩) k k) (W.alloc (.cells (mvsV (List.replicate k mv0)).toArray 42)) := by
  have hinfo : (Tryz.prog.info? 42).map (fun i => (i.zero, i.size, i.bytes)) = some (some (.agg #[.int .u8 0, .int .i64 0, .int .i64 0]), 3, 24) := by kernel_rfl
  obtain ⟨i, hi, hz, hs, hb⟩ := info_parts hinfo
  have h := run_make (P := Tryz.prog) W 131 42 i _ Tryz.underlying131 hi hz .i64 .i64 k k (by omega) (by omega) (by rw [hb]; omega) (by omega)
  rw [h]
  simp only [Int.toNat_natCast, hs]
  have e : (Value.agg #[.int .u8 0, .int .i64 0, .int .i64 0]).cells = #[.int .u8 0, .int .i64 0, .int .i64 0] := by rfl
  rw [e, made_mv]
theorem make_bools (k : Nat) (hk : k ≤ 1024) (W : World) : (Instr.makeSlice 97 (.int .i64 k) (.int .i64 k)).run Tryz.prog W = .ok (.slice (some ⟨W.heap.size, 0, none⟩) k k) (W.alloc (.cells (boolsV (List.replicate k false)).toArray 4)) := by
  have hinfo : (Tryz.prog.info? 4).map (fun i => (i.zero, i.size, i.bytes)) = some (some (.bool false), 1, 1) := by kernel_rfl
  obtain ⟨i, hi, hz, hs, hb⟩ := info_parts hinfo
  have h := run_make (P := Tryz.prog) W 97 4 i _ Tryz.underlying97 hi hz .i64 .i64 k k (by omega) (by omega) (by rw [hb]; omega) (by omega)
  rw [h]
  simp only [Int.toNat_natCast, hs, Nat.mul_one]
  have e : madeCells (Value.bool false).cells k = (boolsV (List.replicate k false)).toArray := by
    apply Array.ext'
    exact (toList_madeCells_one (.bool false) k).trans (by simp [boolsV])
  rw [e]

/-- The call returns places in new memory, or nothing and the error 11. -/
def RelRet (r : Option (List Mv)) (w : World) (e : Ending) (w' : World) : Prop := Below w.heap.size w w' ∧ match r with
  | some ms => ∃ g, e = .returned (.tuple #[.slice (some ⟨g, 0, none⟩) ms.length ms.length, .int .i64 0]) ∧ w.heap.size ≤ g ∧ w'.heap[g]? = some (Obj.cells (mvsV ms).toArray 42 (0, 0))
  | none => e = .returned (.tuple #[.slice none 0 0, .int .i64 11])
end Go.Proofs.YtjdmkgnlakonbaaGreatDoor
