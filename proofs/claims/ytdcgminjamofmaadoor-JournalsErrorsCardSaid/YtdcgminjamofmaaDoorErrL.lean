/- crimplaw42.JournalsErrors returns true. -/
import Derived.Test.YtdcgminjamofmaaDoorMergeL
import Derived.Test.YtdcgminjamofmaaDoorAppend
namespace Go.Proofs.YtdcgminjamofmaaDoor
open Go.RowKit

theorem step_append_run {P : Program} {w : World} {ops : Array Oper} {o : Oper} {a : Act} {K : Act → World → Prop} {Q : Exit → Act → World → Prop} {E : Prop} (hw : Region.wanted o (yielded ops a.tmps) = true) (s x : Operand) (t : TypeId)
    (ho : o.op = .call { callee := .builtin .append, args := #[s, x], argTypes := #[t, t] }) (vs vx : Value) (hs : a.eval s = vs) (hx : a.eval x = vx) (v' : Value) (w' : World)
    (hr : (Builtin.append_ #[t, t] o.type #[vs, vx]).run P w = .ok v' w') (h : K (a.put o.dst v') w') : if Region.wanted o (yielded ops a.tmps) = true then Oper.wp P o a w K Q else E := by
  rw [if_pos hw]
  exact Lib.wp_append_run w s x t t ho vs vx hs hx v' w' hr h
theorem okb_bad {r : Rec} (h : ¬ (0 ≤ r.t ∧ r.t ≤ 1000000000 ∧ 1 ≤ r.k ∧ r.k ≤ 6 ∧ 1 ≤ r.j ∧ r.j ≤ 65535 ∧ 0 ≤ r.v ∧ r.v ≤ 16777215)) : r.ok = false := by
  cases hr : r.ok
  · rfl
  · exact absurd (okRec_iff.1 hr).1 h
theorem okb_bad6 {r : Rec} (h : r.k = 6) (h' : (r.v != 0) = true) : r.ok = false := by
  cases hr : r.ok
  · rfl
  · exact absurd ((okRec_iff.1 hr).2 h) (bne_iff_ne.1 h')
theorem okb_good {r : Rec} (h : 0 ≤ r.t ∧ r.t ≤ 1000000000 ∧ 1 ≤ r.k ∧ r.k ≤ 6 ∧ 1 ≤ r.j ∧ r.j ≤ 65535 ∧ 0 ≤ r.v ∧ r.v ≤ 16777215) (h' : r.k = 6 → r.v = 0) : r.ok = true := okRec_iff.2 ⟨h, h'⟩

def lastT (now : Int) : List Rec → Int
  | [] => now
  | x :: a => lastT x.t a
theorem lastT_snoc (now : Int) (a : List Rec) (x : Rec) : lastT now (a ++ [x]) = x.t := by
  induction a generalizing now with
  | nil => rfl
  | cons y a ih => exact ih y.t
theorem replayS_stop (l : List JobS) (now : Int) (i : Nat) (a : List Rec) (r : Rec) (h : (replayS l now i a).2.1 < i + a.length) : replayS l now i (a ++ [r]) = replayS l now i a := by
  induction a generalizing l now i with
  | nil => simp [replayS] at h
  | cons x a ih =>
    rw [List.cons_append]
    unfold replayS at h ⊢
    cases hx : nextS l now x with
    | inl p => rfl
    | inr l' =>
      rw [hx] at h
      dsimp only at h ⊢
      exact ih l' x.t (i + 1) (by simp only [List.length_cons] at h; omega)
theorem replayS_go (l : List JobS) (now : Int) (i : Nat) (a : List Rec) (r : Rec) (h : (replayS l now i a).2.1 = i + a.length) :
    ∃ l', replayS l now i (a ++ [r]) = match nextS l' (lastT now a) r with
      | .inl p => (l', i + a.length, errNo p)
      | .inr l'' => (l'', i + a.length + 1, 0) := by
  induction a generalizing l now i with
  | nil =>
    refine ⟨l, ?_⟩
    simp only [List.nil_append, replayS, lastT, List.length_nil, Nat.add_zero]
    cases nextS l now r <;> rfl
  | cons x a ih =>
    rw [List.cons_append]
    unfold replayS at h ⊢
    cases hx : nextS l now x with
    | inl p =>
      rw [hx] at h
      simp only [List.length_cons] at h
      omega
    | inr l' =>
      rw [hx] at h
      dsimp only at h ⊢
      obtain ⟨l2, h2⟩ := ih l' x.t (i + 1) (by simp only [List.length_cons] at h; omega)
      refine ⟨l2, ?_⟩
      rw [h2]
      simp only [lastT, List.length_cons, show i + 1 + a.length = i + (a.length + 1) by omega]
theorem nextS_arg {l : List JobS} {now : Int} {r : Rec} (h : nextS l now r = .inl 0) : r.ok = false ∨ r.t < now := by
  have hd : ∀ jb k v, doS jb k v ≠ .inl 0 := by
    intro jb k v hq
    unfold doS at hq
    repeat' split at hq
    all_goals cases hq
  unfold nextS at h
  split at h
  · assumption
  · repeat' split at h
    all_goals first | (cases h; done) | skip
    all_goals (rename_i hq; cases h; exact absurd hq (hd _ _ _))

/-- What the law asks of the two replays. -/
theorem errs_law (L : List Rec) (r : Rec) :
    ((replay L).2.1 < L.length → (replay (L ++ [r])).2.1 = (replay L).2.1) ∧
    (¬ (replay L).2.1 < L.length → (r.ok = false ∨ r.t < lastT 0 L) → (replay (L ++ [r])).2 = (L.length, 1)) ∧
    (¬ (replay L).2.1 < L.length → ¬ (r.ok = false ∨ r.t < lastT 0 L) → ((replay (L ++ [r])).2.2 = 0 ↔ (replay (L ++ [r])).2.1 = L.length + 1) ∧ (replay (L ++ [r])).2.2 ≠ 1) := by
  have hbd := replayS_bd [] 0 0 L
  refine ⟨fun h => ?_, fun h hb => ?_, fun h hb => ?_⟩
  · unfold replay at h ⊢
    rw [replayS_stop [] 0 0 L r (by omega)]
  · unfold replay at h ⊢
    obtain ⟨l', e⟩ := replayS_go [] 0 0 L r (by omega)
    have : nextS l' (lastT 0 L) r = .inl 0 := by unfold nextS; rw [if_pos hb]
    rw [this] at e
    rw [e, Nat.zero_add]
    rfl
  · unfold replay at h ⊢
    obtain ⟨l', e⟩ := replayS_go [] 0 0 L r (by omega)
    rw [Nat.zero_add] at e
    rw [e]
    cases hx : nextS l' (lastT 0 L) r with
    | inl p =>
      have hp := nextS_err hx
      have hp0 : p ≠ 0 := fun h0 => by subst h0; exact hb (nextS_arg hx)
      dsimp only
      obtain rfl | rfl | rfl | rfl : p = 1 ∨ p = 2 ∨ p = 3 ∨ p = 4 := by omega
      all_goals (refine ⟨⟨fun h => ?_, fun h => by omega⟩, ?_⟩ <;> simp [errNo] at *)
    | inr l'' => simp
theorem lastT_get {L : List Rec} (now : Int) (h : 0 < L.length) : lastT now L = L[L.length - 1].t := by
  have e : L = L.take (L.length - 1) ++ [L[L.length - 1]] := by
    have := List.take_succ_eq_append_getElem (show L.length - 1 < L.length by omega)
    rw [Nat.sub_add_cancel h, List.take_length] at this
    exact this
  conv => lhs; rw [e]
  exact lastT_snoc _ _ _

/-- The three orders in which 'append(append([]Record{}, l...), r)' may be done. -/
theorem app_orders (w1 : World) (A1 : Option Addr) (c1 : Nat) (L : List Rec) (r : Rec) (hA : Rd w1 A1 4 L.length (recs L)) (hAn : A1 = none → L.length = 0) (hl : L.length ≤ 60) :
    (∃ vA wA v' w', (Builtin.append_ #[24, 24] 24 #[.slice (some ⟨w1.heap.size, 0, none⟩) 0 0, .slice A1 L.length c1]).run Tryd.prog (w1.alloc (.cells #[] 37)).drew = .ok vA wA ∧ Below w1.heap.size w1 wA ∧
      (Builtin.append_ #[24, 24] 24 #[vA, .slice (some ⟨wA.heap.size, 0, none⟩) 1 1]).run Tryd.prog (wA.alloc (.cells #[.int .i64 r.t, .int .u8 r.k, .int .i64 r.j, .int .i64 r.v] 37)) = .ok v' w' ∧ w'.ownsRow w1.heap.size 37 4 v' (L.length + 1) (recs (L ++ [r])) ∧ Below w1.heap.size w1 w') ∧
    (∃ vA wA v' w', (Builtin.append_ #[24, 24] 24 #[.slice (some ⟨w1.heap.size, 0, none⟩) 0 0, .slice A1 L.length c1]).run Tryd.prog ((w1.alloc (.cells #[] 37)).alloc (.cells #[.int .i64 r.t, .int .u8 r.k, .int .i64 r.j, .int .i64 r.v] 37)).drew = .ok vA wA ∧ Below w1.heap.size w1 wA ∧
      (Builtin.append_ #[24, 24] 24 #[vA, .slice (some ⟨w1.heap.size + 1, 0, none⟩) 1 1]).run Tryd.prog wA = .ok v' w' ∧ w'.ownsRow w1.heap.size 37 4 v' (L.length + 1) (recs (L ++ [r])) ∧ Below w1.heap.size w1 w') ∧
    (∃ vA wA v' w', (Builtin.append_ #[24, 24] 24 #[.slice (some ⟨w1.heap.size + 1, 0, none⟩) 0 0, .slice A1 L.length c1]).run Tryd.prog ((w1.alloc (.cells #[.int .i64 r.t, .int .u8 r.k, .int .i64 r.j, .int .i64 r.v] 37)).alloc (.cells #[] 37)).drew = .ok vA wA ∧ Below w1.heap.size w1 wA ∧
      (Builtin.append_ #[24, 24] 24 #[vA, .slice (some ⟨w1.heap.size, 0, none⟩) 1 1]).run Tryd.prog wA = .ok v' w' ∧ w'.ownsRow w1.heap.size 37 4 v' (L.length + 1) (recs (L ++ [r])) ∧ Below w1.heap.size w1 w') := by
  obtain ⟨i0, hi0, hz0, hz1, hz2⟩ := info_parts rec_info
  have hrr : recs [r] = r.cells := by simp [recs]
  refine ⟨?_, ?_, ?_⟩
  · obtain ⟨vA, wA, hr1, ho1, hg1⟩ := run_append_rdK (P := Tryd.prog) (w1.alloc (.cells #[] 37)).drew w1.heap.size 24 24 37 i0 _ 4 32 Tryd.underlying24 hi0 hz0 hz1 hz2 rfl (by omega) (.slice (some ⟨w1.heap.size, 0, none⟩) 0 0) 0 [] (World.ownsRow.drew (own_new _ 4 0 [] (Nat.le_refl _) (by simp [maxLen]) rfl rfl)) A1 L.length c1 (recs L) (recs_one _) (hA.alloc _) hAn (by omega) (by omega) (by simp)
    have hb1 : Below w1.heap.size w1 wA := (((Below.refl _ _).alloc (Nat.le_refl _) _).drew).grown hg1 (by simp) (by simp [Value.ownBlock])
    obtain ⟨v', w', hr2, ho2, hg2⟩ := run_append_rdK (P := Tryd.prog) (wA.alloc (.cells #[.int .i64 r.t, .int .u8 r.k, .int .i64 r.j, .int .i64 r.v] 37)) w1.heap.size 24 24 37 i0 _ 4 32 Tryd.underlying24 hi0 hz0 hz1 hz2 rfl (by omega) vA _ _ (ho1.alloc _) (some ⟨wA.heap.size, 0, none⟩) 1 1 (recs [r]) (recs_one _) (by rw [hrr]; exact rd_new r.cells 1 4 rfl rfl) (by simp) (by omega) (by omega) (by have := hb1.size; simp; omega)
    refine ⟨vA, wA, v', w', hr1, hb1, hr2, ?_, (hb1.alloc hb1.size _).grown hg2 (by have := hb1.size; simp; omega) (fun q hq => (ho1.lt q hq).1)⟩
    rw [recs_app]
    simpa using ho2
  · have hrd : Rd ((w1.alloc (.cells #[] 37)).alloc (.cells #[.int .i64 r.t, .int .u8 r.k, .int .i64 r.j, .int .i64 r.v] 37)).drew (some ⟨w1.heap.size + 1, 0, none⟩) 4 1 (recs [r]) := by
      rw [hrr]
      exact Rd.drew (rd_new r.cells 1 4 rfl (by simp))
    obtain ⟨vA, wA, hr1, ho1, hg1⟩ := run_append_rdK (P := Tryd.prog) ((w1.alloc (.cells #[] 37)).alloc (.cells #[.int .i64 r.t, .int .u8 r.k, .int .i64 r.j, .int .i64 r.v] 37)).drew w1.heap.size 24 24 37 i0 _ 4 32 Tryd.underlying24 hi0 hz0 hz1 hz2 rfl (by omega) (.slice (some ⟨w1.heap.size, 0, none⟩) 0 0) 0 [] (World.ownsRow.drew ((own_new _ 4 0 [] (Nat.le_refl _) (by simp [maxLen]) rfl rfl).alloc _)) A1 L.length c1 (recs L) (recs_one _) ((hA.alloc _).alloc _) hAn (by omega) (by omega) (by simp; omega)
    have hb1 : Below w1.heap.size w1 wA := ((((Below.refl _ _).alloc (Nat.le_refl _) _).alloc (by simp) _).drew).grown hg1 (by simp; omega) (by simp [Value.ownBlock])
    have hrd2 : Rd wA (some ⟨w1.heap.size + 1, 0, none⟩) 4 1 (recs [r]) := by
      refine ⟨hrd.1, fun hn => ?_⟩
      obtain ⟨b, o, e, hb, hc⟩ := hrd.2 hn
      obtain ⟨rfl, rfl⟩ : w1.heap.size + 1 = b ∧ 0 = o := by simpa using e
      refine ⟨_, 0, rfl, Nat.lt_of_lt_of_le hb hg1.size, fun j u hu => ?_⟩
      rw [hg1.cell_far ⟨w1.heap.size + 1, 0 + j, none⟩ hb (by simp [Value.ownBlock])]
      exact hc j u hu
    obtain ⟨v', w', hr2, ho2, hg2⟩ := run_append_rdK (P := Tryd.prog) wA w1.heap.size 24 24 37 i0 _ 4 32 Tryd.underlying24 hi0 hz0 hz1 hz2 rfl (by omega) vA _ _ ho1 (some ⟨w1.heap.size + 1, 0, none⟩) 1 1 (recs [r]) (recs_one _) hrd2 (by simp) (by omega) (by omega) hb1.size
    refine ⟨vA, wA, v', w', hr1, hb1, hr2, ?_, hb1.grown hg2 hb1.size (fun q hq => (ho1.lt q hq).1)⟩
    rw [recs_app]
    simpa using ho2
  · have hrd : Rd ((w1.alloc (.cells #[.int .i64 r.t, .int .u8 r.k, .int .i64 r.j, .int .i64 r.v] 37)).alloc (.cells #[] 37)).drew (some ⟨w1.heap.size, 0, none⟩) 4 1 (recs [r]) := by
      rw [hrr]
      exact Rd.drew ((rd_new r.cells 1 4 rfl rfl).alloc _)
    obtain ⟨vA, wA, hr1, ho1, hg1⟩ := run_append_rdK (P := Tryd.prog) ((w1.alloc (.cells #[.int .i64 r.t, .int .u8 r.k, .int .i64 r.j, .int .i64 r.v] 37)).alloc (.cells #[] 37)).drew w1.heap.size 24 24 37 i0 _ 4 32 Tryd.underlying24 hi0 hz0 hz1 hz2 rfl (by omega) (.slice (some ⟨w1.heap.size + 1, 0, none⟩) 0 0) 0 [] (World.ownsRow.drew (own_new _ 4 0 [] (by simp) (by simp [maxLen]) rfl (by simp))) A1 L.length c1 (recs L) (recs_one _) ((hA.alloc _).alloc _) hAn (by omega) (by omega) (by simp; omega)
    have hb1 : Below w1.heap.size w1 wA := ((((Below.refl _ _).alloc (Nat.le_refl _) _).alloc (by simp) _).drew).grown hg1 (by simp; omega) (by simp [Value.ownBlock])
    have hrd2 : Rd wA (some ⟨w1.heap.size, 0, none⟩) 4 1 (recs [r]) := by
      refine ⟨hrd.1, fun hn => ?_⟩
      obtain ⟨b, o, e, hb, hc⟩ := hrd.2 hn
      obtain ⟨rfl, rfl⟩ : w1.heap.size = b ∧ 0 = o := by simpa using e
      refine ⟨_, 0, rfl, Nat.lt_of_lt_of_le hb hg1.size, fun j u hu => ?_⟩
      rw [hg1.cell_far ⟨w1.heap.size, 0 + j, none⟩ hb (by simp [Value.ownBlock])]
      exact hc j u hu
    obtain ⟨v', w', hr2, ho2, hg2⟩ := run_append_rdK (P := Tryd.prog) wA w1.heap.size 24 24 37 i0 _ 4 32 Tryd.underlying24 hi0 hz0 hz1 hz2 rfl (by omega) vA _ _ ho1 (some ⟨w1.heap.size, 0, none⟩) 1 1 (recs [r]) (recs_one _) hrd2 (by simp) (by omega) (by omega) hb1.size
    refine ⟨vA, wA, v', w', hr1, hb1, hr2, ?_, hb1.grown hg2 hb1.size (fun q hq => (ho1.lt q hq).1)⟩
    rw [recs_app]
    simpa using ho2
end Go.Proofs.YtdcgminjamofmaaDoor
