/- Joined texts. The contract of crimplaw37.B.Of: the binding that the bits make. · Contracts of cells.Check, cells.Neighbour and of package sheets up to Name. · What the scalar functions of lines, moves and cells compute, in plain Lean. No program is named; no condition. · A closed-run executor, part 1: tries, abstract values, abstract memory, and what they say of a world. No program is named; no condition. · A closed-run executor, part 2: abstract values and memory, and what they say of a world. No program is named; no condition. · A closed-run executor, part 3: operands, and the operations that look at slots alone. No program is named; no condition. -/
import Derived.Test.YtdkijcmhjeaofaaGreatDoorQCln
import Derived.Deep.RegionHeld
import Derived.Test.YtdkijcmhjeaofaaGreatDoorRows
import Derived.WalkKit
import Derived.WalkSpells
import Derived.Laws.Entries
namespace Go.Proofs.YtdkijcmhjeaofaaGreatDoor
open Go.RowKit

/-- Blocks below M stay where all below M stays. -/
theorem Bx.keepM {w wr w2 : World} {l : List (Nat × Array Value × TypeId)} {M : Nat} (h : Bx w l wr) (hM : ∀ x ∈ l, x.1 < M) (hw : w.heap.size ≤ M) (hb : Below M wr w2) : Bx w l w2 :=
  ⟨h.below.trans (hb.mono hw), fun i g cs t hi => (hb.block g (hM _ (List.mem_of_getElem? hi))).trans (h.blk i g cs t hi), h.lo, h.inj⟩
theorem own_setB {w : World} {M e sz n : Nat} {v : Value} {xs : List Value} (h : w.ownsRow M e sz v n xs) {g : Nat} (hg : g < M) (j : Nat) (u : Value) : (w.setCell ⟨g, j, none⟩ u).ownsRow M e sz v n xs :=
  ⟨h.1, h.2.imp id fun ⟨g', cap, cur, r1, r2, r3, r⟩ => ⟨g', cap, cur, r1, r2, (Below.heap_setCell w ⟨g, j, none⟩ u g' (by show g' ≠ g; omega)).trans r3, r⟩⟩
theorem own_pop {w : World} {M e m c : Nat} {B : Option Addr} {x : Value} {xs : List Value} (h : w.ownsRow M e 1 (.slice B (m + 1) c) (m + 1) (xs ++ [x])) : w.ownsRow M e 1 (.slice B m c) m xs := by
  have hl : xs.length = m := by have := h.1; simpa using this
  rcases h.2 with ⟨h0, h1⟩ | ⟨g, cap, cur, r1, r2, r3, r4, r5, r6, r7⟩
  · cases h1
  · obtain ⟨rfl, _, rfl⟩ : B = some ⟨g, 0, none⟩ ∧ True ∧ c = cap := by simpa using r1
    refine ⟨by omega, .inr ⟨g, c, cur, rfl, r2, r3, by omega, r5, r6, ?_⟩⟩
    have := congrArg (List.take m) r7
    rw [List.take_take, Nat.min_eq_left (by omega), List.take_left' hl] at this
    rw [Nat.mul_one]; exact this
theorem below_own {w w2 : World} {M : Nat} {v : Value} (hg : w.grownBy w2 v.ownBlock) {e sz n : Nat} {xs : List Value} (h : w.ownsRow M e sz v n xs) (hm : M ≤ w.heap.size) : Below M w w2 :=
  (Below.refl M w).grown hg hm (fun q hq => (h.lt q hq).1)

theorem row_free {w : World} {g : Nat} {cs : Array Value} {t : TypeId} (h : w.heap[g]? = some (.cells cs t (0, 0))) (j : Nat) : w.frozen? ⟨g, j, none⟩ = false := by
  unfold World.frozen?
  rw [h]
  simp
theorem Bo.run_none (bits i : Nat) : (Bo.run bits i).f i = none := by
  cases h : (Bo.run bits i).f i with
  | none => rfl
  | some b => have := ((Bo.run_ok bits i).lt i b h).1; omega
theorem digit_int (bits i : Nat) : ((bits : Int) / 2 ^ (2 * i)).tmod 4 = (digit bits i : Int) := by
  unfold digit
  rw [Nat.shiftRight_eq_div_pow, Int.tmod_eq_emod_of_nonneg (Int.ediv_nonneg (by omega) (by
    have : (0 : Int) < 2 ^ (2 * i) := Int.pow_pos (by decide)
    omega))]
  push_cast
  rfl
theorem digit_lt (bits i : Nat) : digit bits i < 4 := by unfold digit; omega
theorem Bo.op_len (bits : Nat) : ∀ i, (Bo.run bits i).op.length ≤ i
  | 0 => Nat.le_refl _
  | i + 1 => by
    have ih := Bo.op_len bits i
    unfold Bo.run Bo.step
    split
    · simp; omega
    · split
      · split
        · omega
        · rename_i k r h
          rw [h] at ih
          simp at ih ⊢; omega
      · omega
theorem Bo.step_push (s : Bo) (i d : Nat) (h : d ≤ 1) : s.step i d = ⟨s.f, i :: s.op⟩ := by unfold Bo.step; rw [if_pos h]
theorem Bo.step_pop (s : Bo) (i k : Nat) (r : List Nat) (h : s.op = k :: r) : s.step i 2 = ⟨put2 s.f i k, r⟩ := by
  unfold Bo.step
  rw [if_neg (by decide), if_pos rfl, h]
theorem Bo.step_same (s : Bo) (i d : Nat) (h : d = 3 ∨ d = 2 ∧ s.op = []) : s.step i d = s := by
  unfold Bo.step
  rcases h with rfl | ⟨rfl, h⟩
  · rw [if_neg (by decide), if_neg (by decide)]
  · rw [if_neg (by decide), if_pos rfl, h]
theorem step_app {P : Program} {w : World} {ops : Array Oper} {o : Oper} {a : Act} {K : Act → World → Prop} {Q : Exit → Act → World → Prop} {E : Prop} (hw : Region.wanted o (yielded ops a.tmps) = true) (s x : Operand) (t : TypeId)
    (ho : o.op = .call { callee := .builtin .append, args := #[s, x], argTypes := #[t, t] }) (vs vx : Value) (hs : a.eval s = vs) (hx : a.eval x = vx) (v' : Value) (w' : World)
    (hr : (Builtin.append_ #[t, t] o.type #[vs, vx]).run P w = .ok v' w') (h : K (a.put o.dst v') w') : if Region.wanted o (yielded ops a.tmps) = true then Oper.wp P o a w K Q else E := by
  rw [if_pos hw]
  exact Lib.wp_append_run w s x t t ho vs vx hs hx v' w' hr h
theorem infoTwo : (Tryz.prog.info? 36).map (fun i => (i.zero, i.size, i.bytes)) = some (some (.agg #[.int .i64 0, .int .i64 0]), 2, 16) := by kernel_rfl
theorem isLoose_none {f : Nat → Option Nat} {j : Nat} (h : f j = none) : looseTo f (j + 1) = looseTo f j ++ [j] ∧ foliosTo f (j + 1) = foliosTo f j := by
  rw [looseTo_succ, foliosTo_succ]
  simp [isLoose, folio, h]
theorem isLoose_some {f : Nat → Option Nat} {j b : Nat} (h : f j = some b) : looseTo f (j + 1) = looseTo f j := by
  rw [looseTo_succ]
  simp [isLoose, h]
theorem folio_some {f : Nat → Option Nat} {j b : Nat} (h : f j = some b) (hlt : j < b) : foliosTo f (j + 1) = foliosTo f j ++ [(j, b)] := by
  rw [foliosTo_succ]
  simp [folio, h, hlt]
theorem folio_back {f : Nat → Option Nat} {j b : Nat} (h : f j = some b) (hlt : ¬ j < b) : foliosTo f (j + 1) = foliosTo f j := by
  rw [foliosTo_succ]
  simp [folio, h, hlt]
theorem loose_len (f : Nat → Option Nat) (n : Nat) : (looseTo f n).length ≤ n := by
  have := List.length_filter_le (isLoose f) (List.range n)
  simpa [looseTo] using this
theorem folios_len (f : Nat → Option Nat) (n : Nat) : (foliosTo f n).length ≤ n := by
  have := List.length_filterMap_le (folio f) (List.range n)
  simpa [foliosTo] using this
/-- A number as a cell. -/
def nV (k : Nat) : Value := .int .i64 (k : Int)
def othV (f : Nat → Option Nat) (j : Nat) : Value := match f j with
  | none => .int .i64 (-1)
  | some b => nV b
/-- The cells of 'other' when the first i leaves are done. -/
def othC (f : Nat → Option Nat) (i L : Nat) : List Value := (List.range L).map fun j => if j < i then othV f j else .int .i64 0
theorem othC_len (f : Nat → Option Nat) (i L : Nat) : (othC f i L).length = L := by simp [othC]
theorem othC_get {f : Nat → Option Nat} {i L j : Nat} (h : j < L) : (othC f i L)[j]? = some (if j < i then othV f j else .int .i64 0) := by
  simp [othC, h]
theorem othC_zero (f : Nat → Option Nat) (L : Nat) : othC f 0 L = List.replicate L (.int .i64 0) := by
  apply List.ext_getElem?
  intro j
  by_cases h : j < L
  · rw [othC_get h, if_neg (by omega), List.getElem?_replicate, if_pos h]
  · rw [List.getElem?_eq_none (by rw [othC_len]; omega), List.getElem?_eq_none (by simp; omega)]
theorem othC_none {f : Nat → Option Nat} {i L : Nat} (hi : i < L) (hf : f i = none) : (othC f i L).toArray.setIfInBounds i (.int .i64 (-1)) = (othC f (i + 1) L).toArray := by
  rw [List.setIfInBounds_toArray]
  congr 1
  apply List.ext_getElem?
  intro j
  rw [List.getElem?_set]
  by_cases h : j < L
  · rw [othC_get h, othC_get h, othC_len]
    by_cases e : i = j
    · subst e
      rw [if_pos rfl, if_pos hi, if_pos (by omega)]
      simp [othV, hf]
    · rw [if_neg e]
      by_cases h2 : j < i
      · rw [if_pos h2, if_pos (by omega)]
      · rw [if_neg h2, if_neg (by omega)]
  · rw [List.getElem?_eq_none (by rw [othC_len]; omega), List.getElem?_eq_none (by rw [othC_len]; omega), othC_len]
    by_cases e : i = j
    · omega
    · rw [if_neg e]
theorem othC_put {f : Nat → Option Nat} {i k L : Nat} (hi : i < L) (hk : k < i) : ((othC f (i + 1) L).toArray.setIfInBounds i (nV k)).setIfInBounds k (nV i) = (othC (put2 f i k) (i + 1) L).toArray := by
  rw [List.setIfInBounds_toArray, List.setIfInBounds_toArray]
  congr 1
  apply List.ext_getElem?
  intro j
  rw [List.getElem?_set, List.getElem?_set]
  by_cases h : j < L
  · rw [othC_get h, othC_get h, List.length_set, othC_len]
    unfold othV put2
    by_cases e1 : k = j
    · subst e1
      rw [if_pos rfl, if_pos (by omega), if_pos (by omega), if_neg (by omega), if_pos rfl]
    · rw [if_neg e1]
      by_cases e2 : i = j
      · subst e2
        rw [if_pos rfl, if_pos hi, if_pos (by omega), if_pos rfl]
      · rw [if_neg e2, if_neg (Ne.symm e2), if_neg (Ne.symm e1)]
  · rw [List.getElem?_eq_none (by rw [othC_len]; omega), List.getElem?_eq_none (by rw [othC_len]; omega), List.length_set, othC_len]
    rw [if_neg (by omega), if_neg (by omega)]
def opV (l : List Nat) : List Value := l.reverse.map nV
theorem opV_cons (k : Nat) (l : List Nat) : opV (k :: l) = opV l ++ [nV k] := by simp [opV]
theorem opV_len (l : List Nat) : (opV l).length = l.length := by simp [opV]
def looV (l : List Nat) : List Value := l.map nV
def folV (l : List (Nat × Nat)) : List Value := l.flatMap fun p => [nV p.1, nV p.2]
theorem looV_snoc (l : List Nat) (a : Nat) : looV (l ++ [a]) = looV l ++ [nV a] := by simp [looV]
theorem folV_snoc (l : List (Nat × Nat)) (p : Nat × Nat) : folV (l ++ [p]) = folV l ++ [nV p.1, nV p.2] := by simp [folV]
theorem folV_len (l : List (Nat × Nat)) : (folV l).length = l.length * 2 := by
  induction l with
  | nil => rfl
  | cons p r ih => unfold folV at *; rw [List.flatMap_cons, List.length_append, ih]; simp; omega
/-- A binding in memory: the folios and the loose leaves of f. -/
structure BAt (w : World) (f : Nat → Option Nat) (L : Nat) (fA lA : Option Addr) (nf fc nl lc : Nat) : Prop where
  hf : nf = (foliosTo f L).length
  hl : nl = (looseTo f L).length
  rf : Rd w fA 2 nf (folV (foliosTo f L))
  rl : Rd w lA 1 nl (looV (looseTo f L))
  af : AOk fA nf fc
  al : AOk lA nl lc
  cf : nf ≤ fc ∧ fc ≤ maxLen
  cl : nl ≤ lc ∧ lc ≤ maxLen
theorem BAt.below {w w' : World} {f : Nat → Option Nat} {L : Nat} {fA lA : Option Addr} {nf fc nl lc : Nat} (h : BAt w f L fA lA nf fc nl lc) (hb : Below w.heap.size w w') : BAt w' f L fA lA nf fc nl lc :=
  ⟨h.hf, h.hl, h.rf.below hb, h.rl.below hb, h.af, h.al, h.cf, h.cl⟩
def OfRet (f : Nat → Option Nat) (L : Nat) (w : World) (e : Ending) (w' : World) : Prop := ∃ fA lA nf fc nl lc, e = .returned (.agg #[.int .i64 (L : Int), .slice fA nf fc, .slice lA nl lc]) ∧ BAt w' f L fA lA nf fc nl lc ∧ Below w.heap.size w w'
theorem make_ints (k : Nat) (hk : k ≤ 1024) (W : World) : (Instr.makeSlice 26 (.int .i64 k) (.int .i64 k)).run Tryz.prog W = .ok (.slice (some ⟨W.heap.size, 0, none⟩) k k) (W.alloc (.cells (List.replicate k (Value.int .i64 0)).toArray 3)) := by
  obtain ⟨i, hi, hz, hs, hb⟩ := info_parts infoInt
  have h := run_make (P := Tryz.prog) W 26 3 i _ Tryz.underlying26 hi hz .i64 .i64 k k (by omega) (by omega) (by rw [hb]; omega) (by omega)
  rw [h]
  simp only [Int.toNat_natCast, hs, Nat.mul_one]
  have e : madeCells (Value.int .i64 0).cells k = (List.replicate k (Value.int .i64 0)).toArray := by
    apply Array.ext'
    exact (toList_madeCells_one (.int .i64 0) k).trans (by simp)
  rw [e]
set_option maxHeartbeats 4000000 in
set_option maxRecDepth 100000 in
set_option linter.unusedSimpArgs false in
theorem bof_any (lv bits : Nat) (hlv : lv ≤ 255) (w : World) : Calls Tryz.prog 5 #[.agg #[.int .u8 lv, .int .u64 bits]] w (OfRet (Bo.run bits (1 + lv % 24)).f (1 + lv % 24) w) := by
  obtain ⟨r, hr⟩ : ∃ r, r = lv % 24 := ⟨_, rfl⟩
  rw [← hr]
  have t1 : (lv : Int).tmod 24 = (r : Int) := by rw [hr, Int.tmod_eq_emod_of_nonneg (by omega)]; omega
  have hr24 : r < 24 := by omega
  obtain ⟨L, hL⟩ : ∃ L, L = 1 + r := ⟨_, rfl⟩
  rw [← hL]
  have t2 : (1 : Int) + (r : Int) = (L : Int) := by omega
  have hL1 : 1 ≤ L := by omega
  have hL2 : L ≤ 24 := by omega
  clear hL hr
  have H := (((Bx.start w).new #[.int .u8 lv, .int .u64 bits] 24 rfl).new #[.int .i64 0, .slice none 0 0, .slice none 0 0] 28 rfl)
  go_enter Tryz.func5, Tryz.ntmps5
  go_upto_region 1 with fail
  obtain ⟨W, hW⟩ : ∃ zW, zW = (w.alloc (.cells #[.int .u8 lv, .int .u64 bits] 24)).alloc (.cells #[.int .i64 0, .slice none 0 0, .slice none 0 0] 28) := ⟨_, rfl⟩
  have HWS : Hid (W.heap.size = w.heap.size + 2) := Lib.hid (by rw [hW]; simp)
  rw [← hW] at H ⊢
  clear hW
  obtain ⟨N, hN⟩ : ∃ N, N = w.heap.size := ⟨_, rfl⟩
  obtain ⟨N1, hN1⟩ : ∃ N1, N1 = (w.alloc (.cells #[.int .u8 lv, .int .u64 bits] 24)).heap.size := ⟨_, rfl⟩
  rw [← hN, ← hN1] at H
  simp only [World.size_alloc, ← hN] at hN1 ⊢
  rw [← hN1]
  have HN := Lib.hid hN
  have HN1 := Lib.hid hN1
  clear hN hN1
  obtain ⟨⟨a0, a1⟩, _⟩ := blk2 (H.blk 0 _ _ _ rfl)
  go_upto_region 2 with fail
  have H2 := H.new #[.int .i64 L, .slice none 0 0, .slice none 0 0] 28 rfl
  obtain ⟨N2, hN2⟩ : ∃ N2, N2 = W.heap.size := ⟨_, rfl⟩
  rw [← hN2] at H2 ⊢
  have HN2 : Hid (N2 = N + 2) := Lib.hid (by rw [hN2, HWS.out, HN.out])
  obtain ⟨W2, hW2⟩ : ∃ zW, zW = W.alloc (.cells #[.int .i64 L, .slice none 0 0, .slice none 0 0] 28) := ⟨_, rfl⟩
  have HWS2 : Hid (W2.heap.size = N + 3) := Lib.hid (by rw [hW2, World.size_alloc, ← hN2, HN2.out])
  rw [← hW2] at H2 ⊢
  clear hN2 hW2 H a0 a1 t1 t2
  obtain ⟨⟨c0, c1, c2⟩, _⟩ := blk3 (H2.blk 2 _ _ _ rfl)
  have hmk := make_ints L (by omega)
  go_upto_region 3 with fail
  have H3 := H2.new (Array.replicate L (Value.int .i64 0)) 3 rfl
  obtain ⟨P, hP⟩ : ∃ P, P = W2.heap.size := ⟨_, rfl⟩
  rw [← hP] at H3 ⊢
  have HP : Hid (P = N + 3) := Lib.hid (by rw [hP, HWS2.out])
  obtain ⟨W3, hW3⟩ : ∃ zW, zW = W2.alloc (.cells (Array.replicate L (Value.int .i64 0)) 3) := ⟨_, rfl⟩
  have HM : Hid (W3.heap.size = N + 4) := Lib.hid (by rw [hW3, World.size_alloc, HWS2.out])
  rw [← hW3] at H3 ⊢
  clear hP hW3 H2 c0 c1 c2 hmk
  rw [show Array.replicate L (Value.int .i64 0) = (othC (Bo.run bits 0).f 0 L).toArray by rw [othC_zero]; simp] at H3
  obtain ⟨M, hM⟩ : ∃ M, M = W3.heap.size := ⟨_, rfl⟩
  have HMM := Lib.hid hM
  clear hM
  obtain ⟨i0, hi0, hz0, hz1, hz2⟩ := info_parts infoInt
  have HI0 := Lib.hid hi0
  have HZ0 := Lib.hid hz0
  have HZ1 := Lib.hid hz1
  have HZ2 := Lib.hid hz2
  clear hi0 hz0 hz1 hz2
  have HWM : Hid (w.heap.size ≤ M) := Lib.hid (by have h1 := HN.out; have h2 := HM.out; have h3 := HMM.out; omega)
  have HLM : Hid (∀ (X1 X2 X3 X4 : Array Value) (t1 t2 t3 t4 : TypeId), ∀ x ∈ [(N, X1, t1), (N1, X2, t2), (N2, X3, t3), (P, X4, t4)], x.1 < M) := Lib.hid (by
    have h1 := HN.out; have h2 := HM.out; have h3 := HMM.out; have h4 := HN1.out; have h5 := HN2.out; have h6 := HP.out
    intro X1 X2 X3 X4 t1 t2 t3 t4 x hx
    simp only [List.mem_cons, List.not_mem_nil, or_false] at hx
    rcases hx with rfl | rfl | rfl | rfl <;> (dsimp only; omega))
  go_wp2_with fail
  go_loopw [5, 6] (fun s5 s6 wr => ∃ (i m c : Nat) (B : Option Addr), s6 = .int .i64 i ∧ s5 = .slice B m c ∧ i ≤ L ∧ m = (Bo.run bits i).op.length ∧ M ≤ wr.heap.size ∧ Hid (wr.ownsRow M 3 1 (.slice B m c) m (opV (Bo.run bits i).op)) ∧ Hid (Bx w [(N, #[.int .u8 lv, .int .u64 bits], 24), (N1, #[.int .i64 0, .slice none 0 0, .slice none 0 0], 28), (N2, #[.int .i64 L, .slice none 0 0, .slice none 0 0], 28), (P, (othC (Bo.run bits i).f i L).toArray, 3)] wr)) (fun _ s6 _ => L - (intOf s6).toNat)
  case atStart => exact ⟨0, 0, 0, none, rfl, rfl, by omega, rfl, Nat.le_of_eq HMM.out, Lib.hid ⟨rfl, .inl ⟨rfl, rfl⟩⟩, Lib.hid H3⟩
  case round =>
    obtain ⟨i, m, c, B, rfl, rfl, hiL, hm, hMw, HO, HB⟩ := hrel
    clear H3
    have H := HB.out
    obtain ⟨⟨a0, a1⟩, _⟩ := blk2 (H.blk 0 _ _ _ rfl)
    obtain ⟨⟨c0, c1, c2⟩, z0, z1, z2⟩ := blk3 (H.blk 2 _ _ _ rfl)
    have HM1 := Lib.hid hm
    clear hm
    by_cases hlt : i < L
    · have q0 : (i : Int) < (L : Int) := by omega
      have p0 : wr.cell? ⟨P, i, none⟩ = some (.int .i64 0) := by
        rw [cell_of_row _ _ i _ 3 (0, 0) (H.blk 3 _ _ _ rfl)]
        have := othC_get (f := (Bo.run bits i).f) (i := i) hlt
        rw [if_neg (by omega)] at this
        simpa using this
      have p1 := row_free (H.blk 3 _ _ _ rfl) i
      have H1 := H.set 3 i rfl (.int .i64 (-1))
      have hoc := othC_none (f := (Bo.run bits i).f) hlt (Bo.run_none bits i)
      dsimp only [List.set_cons_zero, List.set_cons_succ] at H1
      rw [hoc] at H1
      have HO1 := Lib.hid (own_setB HO.out (g := P) (by have := HP.out; have := HMM.out; have := HM.out; omega) i (.int .i64 (-1)))
      go_upto_region 8 with fail
      have HM2 : Hid (M ≤ (wr.setCell ⟨P, i, none⟩ (.int .i64 (-1))).heap.size) := Lib.hid (by simpa using hMw)
      obtain ⟨w1, hw1⟩ : ∃ zW, zW = wr.setCell ⟨P, i, none⟩ (.int .i64 (-1)) := ⟨_, rfl⟩
      rw [← hw1] at H1 HO1 HM2 ⊢
      clear hw1
      have hM1 : M ≤ w1.heap.size := HM2.out
      clear hoc a0 a1 c0 c1 c2 z0 z1 z2 p0 p1 H HB HO hMw q0
      obtain ⟨⟨a0, a1⟩, _⟩ := blk2 (H1.blk 0 _ _ _ rfl)
      go_upto_region 9 with fail
      rw [digit_int]
      obtain ⟨d, hd⟩ : ∃ d, d = digit bits i := ⟨_, rfl⟩
      rw [← hd]
      have hd4 : d < 4 := hd ▸ digit_lt bits i
      obtain ⟨s, hs⟩ : ∃ s, s = Bo.run bits i := ⟨_, rfl⟩
      have HRN : Hid (Bo.run bits (i + 1) = s.step i d) := Lib.hid (by rw [hd, hs]; rfl)
      rw [← hs] at HO1 H1 HM1
      have HSL : Hid (s.op.length ≤ i) := Lib.hid (by rw [hs]; exact Bo.op_len bits i)
      have HSO : Hid (s.Ok i) := Lib.hid (by rw [hs]; exact Bo.run_ok bits i)
      have HH1 := Lib.hid H1
      clear hd hs H1
      obtain rfl | rfl | rfl | rfl : d = 0 ∨ d = 1 ∨ d = 2 ∨ d = 3 := by omega
      · clear hd4
        obtain ⟨v', w7, hr, hown', hg⟩ := run_append_rdK (P := Tryz.prog) (w1.alloc (.cells #[.int .i64 i] 3)) M 26 26 3 i0 _ 1 8 Tryz.underlying26 HI0.out HZ0.out HZ1.out HZ2.out rfl (by omega) (.slice B m c) m (opV s.op) (HO1.out.alloc _) (some ⟨w1.heap.size, 0, none⟩) 1 1 [.int .i64 i] (by simp [Value.oneCell']) (rd_new _ 1 1 rfl rfl) (by simp) (by have h1 := HM1.out; have h2 := HSL.out; omega) (by omega) (by simp; omega)
        have hb7 : Below M w1 w7 := ((Below.refl M w1).alloc hM1 _).grown hg (by simp; omega) (fun q hq => (HO1.out.lt q hq).1)
        obtain ⟨A', c', rfl, hnc', hcm'⟩ := own_form hown'
        rw [show opV s.op ++ [Value.int .i64 (i : Int)] = opV (i :: s.op) from (opV_cons i s.op).symm] at hown'
        have HB7 : Hid (Bx w [(N, #[.int .u8 lv, .int .u64 bits], 24), (N1, #[.int .i64 0, .slice none 0 0, .slice none 0 0], 28), (N2, #[.int .i64 L, .slice none 0 0, .slice none 0 0], 28), (P, (othC s.f (i + 1) L).toArray, 3)] w7) := Lib.hid (HH1.out.keepM (HLM.out _ _ _ _ _ _ _ _) HWM.out hb7)
        have HM7 : Hid (M ≤ w7.heap.size) := Lib.hid (Nat.le_trans hM1 hb7.size)
        have HR := Lib.hid hr
        have HO7 := Lib.hid hown'
        have HRN2 : Hid (Bo.run bits (i + 1) = ⟨s.f, i :: s.op⟩) := Lib.hid (by rw [HRN.out, Bo.step_push s i _ (by decide)])
        clear hr hown' hg hb7
        as_aux_lemma =>
        go_wp2_with (at_builtin; refine Lib.wpList_append_run _ rfl _ _ _ _ rfl _ _ rfl rfl _ _ HR.out ?_)
        go_wp2_with fail
        go_roundw
        case rel => exact ⟨i + 1, m + 1, c', A', by go_num, rfl, by omega, by rw [HRN2.out, HM1.out]; rfl, HM7.out, by rw [HRN2.out]; exact HO7, by rw [HRN2.out]; exact HB7⟩
        case measure => simp [intOf]; omega
      · clear hd4
        obtain ⟨v', w7, hr, hown', hg⟩ := run_append_rdK (P := Tryz.prog) (w1.alloc (.cells #[.int .i64 i] 3)) M 26 26 3 i0 _ 1 8 Tryz.underlying26 HI0.out HZ0.out HZ1.out HZ2.out rfl (by omega) (.slice B m c) m (opV s.op) (HO1.out.alloc _) (some ⟨w1.heap.size, 0, none⟩) 1 1 [.int .i64 i] (by simp [Value.oneCell']) (rd_new _ 1 1 rfl rfl) (by simp) (by have h1 := HM1.out; have h2 := HSL.out; omega) (by omega) (by simp; omega)
        have hb7 : Below M w1 w7 := ((Below.refl M w1).alloc hM1 _).grown hg (by simp; omega) (fun q hq => (HO1.out.lt q hq).1)
        obtain ⟨A', c', rfl, hnc', hcm'⟩ := own_form hown'
        rw [show opV s.op ++ [Value.int .i64 (i : Int)] = opV (i :: s.op) from (opV_cons i s.op).symm] at hown'
        have HB7 : Hid (Bx w [(N, #[.int .u8 lv, .int .u64 bits], 24), (N1, #[.int .i64 0, .slice none 0 0, .slice none 0 0], 28), (N2, #[.int .i64 L, .slice none 0 0, .slice none 0 0], 28), (P, (othC s.f (i + 1) L).toArray, 3)] w7) := Lib.hid (HH1.out.keepM (HLM.out _ _ _ _ _ _ _ _) HWM.out hb7)
        have HM7 : Hid (M ≤ w7.heap.size) := Lib.hid (Nat.le_trans hM1 hb7.size)
        have HR := Lib.hid hr
        have HO7 := Lib.hid hown'
        have HRN2 : Hid (Bo.run bits (i + 1) = ⟨s.f, i :: s.op⟩) := Lib.hid (by rw [HRN.out, Bo.step_push s i _ (by decide)])
        clear hr hown' hg hb7
        as_aux_lemma =>
        go_wp2_with (at_builtin; refine Lib.wpList_append_run _ rfl _ _ _ _ rfl _ _ rfl rfl _ _ HR.out ?_)
        go_wp2_with fail
        go_roundw
        case rel => exact ⟨i + 1, m + 1, c', A', by go_num, rfl, by omega, by rw [HRN2.out, HM1.out]; rfl, HM7.out, by rw [HRN2.out]; exact HO7, by rw [HRN2.out]; exact HB7⟩
        case measure => simp [intOf]; omega
      · clear hd4
        cases hop : s.op with
        | nil =>
          have h0 := HM1.out
          rw [hop] at h0
          obtain rfl : m = 0 := h0
          have HRN2 : Hid (Bo.run bits (i + 1) = s) := Lib.hid (by rw [HRN.out, Bo.step_same s i 2 (.inr ⟨rfl, hop⟩)])
          clear hop
          as_aux_lemma =>
          go_wp2_with fail
          go_roundw
          case rel => exact ⟨i + 1, 0, c, B, by go_num, rfl, by omega, by rw [HRN2.out]; exact HM1.out, hM1, by rw [HRN2.out]; exact HO1, by rw [HRN2.out]; exact HH1⟩
          case measure => simp [intOf]; omega
        | cons k rest =>
          have h0 := HM1.out
          rw [hop] at h0 HO1
          obtain rfl : m = rest.length + 1 := h0
          have hk : k < i := ((HSO.out).opn k (by rw [hop]; simp)).1
          have HRN2 : Hid (Bo.run bits (i + 1) = ⟨put2 s.f i k, rest⟩) := Lib.hid (by rw [HRN.out, Bo.step_pop s i k rest hop])
          rw [opV_cons] at HO1
          have hrd := Rd.of_own HO1.out
          obtain ⟨g, o, rfl, hgl, hcell⟩ := hrd.2 (by omega)
          have p0 : w1.cell? ⟨g, o + rest.length, none⟩ = some (.int .i64 (k : Int)) := hcell rest.length (nV k) (by rw [List.getElem?_append_right (by rw [opV_len]; omega), opV_len]; simp)
          clear hop hrd hcell hgl
          have hpop := own_pop HO1.out
          have hlP : P < M := by have h1 := HN.out; have h2 := HM.out; have h3 := HMM.out; have h6 := HP.out; omega
          have HO2 : Hid (((w1.setCell ⟨P, i, none⟩ (.int .i64 (k : Int))).setCell ⟨P, k, none⟩ (.int .i64 (i : Int))).ownsRow M 3 1 (.slice (some ⟨g, o, none⟩) rest.length c) rest.length (opV rest)) := Lib.hid (own_setB (own_setB hpop hlP i _) hlP k _)
          have f1 := row_free (HH1.out.blk 3 _ _ _ rfl) i
          have f2 := row_free (HH1.out.blk 3 _ _ _ rfl) k
          have p1 : w1.cell? ⟨P, i, none⟩ = some (othV s.f i) := by
            rw [cell_of_row _ _ i _ 3 (0, 0) (HH1.out.blk 3 _ _ _ rfl)]
            have h := othC_get (f := s.f) (i := i + 1) hlt
            rw [if_pos (by omega)] at h
            simpa using h
          have p2 : w1.cell? ⟨P, k, none⟩ = some (othV s.f k) := by
            rw [cell_of_row _ _ k _ 3 (0, 0) (HH1.out.blk 3 _ _ _ rfl)]
            have h := othC_get (f := s.f) (i := i + 1) (j := k) (L := L) (by omega)
            rw [if_pos (by omega)] at h
            simpa using h
          have H5 := (HH1.out.set 3 i rfl (.int .i64 (k : Int))).set 3 k rfl (.int .i64 (i : Int))
          have hoc := othC_put (f := s.f) hlt hk
          dsimp only [List.set_cons_zero, List.set_cons_succ] at H5
          rw [show ((othC s.f (i + 1) L).toArray.setIfInBounds i (.int .i64 (k : Int))).setIfInBounds k (.int .i64 (i : Int)) = (othC (put2 s.f i k) (i + 1) L).toArray from hoc] at H5
          have HH5 := Lib.hid H5
          have HM5 : Hid (M ≤ ((w1.setCell ⟨P, i, none⟩ (.int .i64 (k : Int))).setCell ⟨P, k, none⟩ (.int .i64 (i : Int))).heap.size) := Lib.hid (by simpa using hM1)
          have q1 : (k : Int) < (L : Int) := by omega
          have q2 : (i : Int) < (L : Int) := by omega
          have q3 : i ≠ k := by omega
          clear H5 hoc hpop
          have hrc : rest.length + 1 ≤ c ∧ c ≤ maxLen := by
            obtain ⟨A, c2, e, h1, h2⟩ := own_form HO1.out
            obtain ⟨_, rfl⟩ : some ⟨g, o, none⟩ = A ∧ c = c2 := by simpa using e
            exact ⟨h1, h2⟩
          unfold maxLen at hrc
          obtain ⟨hc1, hc2⟩ := hrc
          as_aux_lemma =>
          go_wp2_with fail
          go_roundw
          case rel => exact ⟨i + 1, rest.length, c, some ⟨g, o, none⟩, by go_num, rfl, by omega, by rw [HRN2.out], HM5.out, by rw [HRN2.out]; exact HO2, by rw [HRN2.out]; exact HH5⟩
          case measure => simp [intOf]; omega
      · have HRN2 : Hid (Bo.run bits (i + 1) = s) := Lib.hid (by rw [HRN.out, Bo.step_same s i 3 (.inl rfl)])
        clear hd4
        as_aux_lemma =>
        go_wp2_with fail
        go_roundw
        case rel => exact ⟨i + 1, m, c, B, by go_num, rfl, by omega, by rw [HRN2.out]; exact HM1.out, hM1, by rw [HRN2.out]; exact HO1, by rw [HRN2.out]; exact HH1⟩
        case measure => simp [intOf]; omega
    · obtain rfl : i = L := by omega
      have q0 : ¬ (i : Int) < (i : Int) := by omega
      obtain ⟨f, hf⟩ : ∃ f, f = (Bo.run bits i).f := ⟨_, rfl⟩
      rw [← hf] at HB ⊢
      have HB0 := HB.out
      have HF := Lib.hid hf
      clear H HB HO HM1 hf hlt hiL
      obtain ⟨j0, hj0, hjz0, hjz1, hjz2⟩ := info_parts infoTwo
      have HJ0 := Lib.hid hj0
      have HJZ0 := Lib.hid hjz0
      have HJZ1 := Lib.hid hjz1
      have HJZ2 := Lib.hid hjz2
      clear hj0 hjz0 hjz1 hjz2
      go_wp2_with fail
      clear a0 a1 c0 c1 c2 z0 z1 z2 q0
      go_loopw [8] (fun s8 wx => ∃ (j nf fc nl lc : Nat) (fA lA : Option Addr), s8 = .int .i64 j ∧ j ≤ i ∧ Hid (nf = (foliosTo f j).length) ∧ Hid (nl = (looseTo f j).length) ∧ M ≤ wx.heap.size ∧ Hid (wx.ownsRow M 36 2 (.slice fA nf fc) nf (folV (foliosTo f j))) ∧ Hid (wx.ownsRow M 3 1 (.slice lA nl lc) nl (looV (looseTo f j))) ∧ Hid (Bx w [(N, #[.int .u8 lv, .int .u64 bits], 24), (N1, #[.int .i64 0, .slice none 0 0, .slice none 0 0], 28), (N2, #[.int .i64 i, .slice fA nf fc, .slice lA nl lc], 28), (P, (othC f i i).toArray, 3)] wx)) (fun s8 _ => i - (intOf s8).toNat)
      case atStart => exact ⟨0, 0, 0, 0, 0, none, none, rfl, by omega, Lib.hid rfl, Lib.hid rfl, hMw, Lib.hid ⟨rfl, .inl ⟨rfl, rfl⟩⟩, Lib.hid ⟨rfl, .inl ⟨rfl, rfl⟩⟩, Lib.hid HB0⟩
      case round =>
        obtain ⟨j, nf, fc, nl, lc, fA, lA, rfl, hji, HNF, HNL, hMx, HOF, HOL, HB⟩ := hrel
        clear HB0 hMw
        have H := HB.out
        obtain ⟨⟨c0, c1, c2⟩, z0, z1, z2⟩ := blk3 (H.blk 2 _ _ _ rfl)
        by_cases hlt : j < i
        · have q0 : (j : Int) < (i : Int) := by omega
          have p0 : wr.cell? ⟨P, j, none⟩ = some (othV f j) := by
            rw [cell_of_row _ _ j _ 3 (0, 0) (H.blk 3 _ _ _ rfl)]
            have h := othC_get (f := f) (i := i) hlt
            rw [if_pos hlt] at h
            simpa using h
          have hlN : N2 < M := by have h1 := HN.out; have h2 := HM.out; have h3 := HMM.out; have h6 := HN2.out; omega
          cases hfj : f j with
          | none =>
            obtain ⟨e1, e2⟩ := isLoose_none hfj
            have p1 : wr.cell? ⟨P, j, none⟩ = some (.int .i64 (-1)) := by rw [p0]; unfold othV; rw [hfj]
            clear p0
            have HE1 := Lib.hid e1
            have HE2 := Lib.hid e2
            clear e1 e2 hfj
            obtain ⟨v', w7, hr, hown', hg⟩ := run_append_rdK (P := Tryz.prog) (wr.alloc (.cells #[.int .i64 j] 3)) M 26 26 3 i0 _ 1 8 Tryz.underlying26 HI0.out HZ0.out HZ1.out HZ2.out rfl (by omega) (.slice lA nl lc) nl (looV (looseTo f j)) (HOL.out.alloc _) (some ⟨wr.heap.size, 0, none⟩) 1 1 [.int .i64 j] (by simp [Value.oneCell']) (rd_new _ 1 1 rfl rfl) (by simp) (by have h1 := HNL.out; have h2 := loose_len f j; omega) (by omega) (by simp; omega)
            have hb7 : Below M wr w7 := ((Below.refl M wr).alloc hMx _).grown hg (by simp; omega) (fun q hq => (HOL.out.lt q hq).1)
            have hofA := HOF.out.alloc (.cells #[.int .i64 j] 3)
            have hof7 := own_kept hofA hg (own_apart hofA (HOL.out.alloc (.cells #[.int .i64 j] 3)) (by decide))
            clear hofA
            obtain ⟨A', c', rfl, hnc', hcm'⟩ := own_form hown'
            rw [show looV (looseTo f j) ++ [Value.int .i64 (j : Int)] = looV (looseTo f (j + 1)) by rw [HE1.out, looV_snoc]; rfl] at hown'
            have H7 := H.keepM (HLM.out _ _ _ _ _ _ _ _) HWM.out hb7
            have HR := Lib.hid hr
            obtain ⟨⟨c0', c1', c2'⟩, z0', z1', z2'⟩ := blk3 (H7.blk 2 _ _ _ rfl)
            have H8 := H7.set 2 2 rfl (.slice A' (nl + 1) c')
            dsimp only [List.set_cons_zero, List.set_cons_succ] at H8
            have HO8 := Lib.hid (own_setB hown' hlN 2 (.slice A' (nl + 1) c'))
            have HF8 := Lib.hid (own_setB hof7 hlN 2 (.slice A' (nl + 1) c'))
            have HM8 : Hid (M ≤ (w7.setCell ⟨N2, 2, none⟩ (.slice A' (nl + 1) c')).heap.size) := Lib.hid (by have := hb7.size; simp; omega)
            have HH8 : Hid (Bx w [(N, #[.int .u8 lv, .int .u64 bits], 24), (N1, #[.int .i64 0, .slice none 0 0, .slice none 0 0], 28), (N2, #[.int .i64 i, .slice fA nf fc, .slice A' (nl + 1) c'], 28), (P, (othC f i i).toArray, 3)] (w7.setCell ⟨N2, 2, none⟩ (.slice A' (nl + 1) c'))) := Lib.hid H8
            clear hr hown' hg hb7 hof7 H7 H8
            as_aux_lemma =>
            go_wp2_with (at_builtin; refine Lib.wpList_append_run _ rfl _ _ _ _ rfl _ _ rfl rfl _ _ HR.out ?_)
            go_wp2_with fail
            go_roundw
            case rel => exact ⟨j + 1, nf, fc, nl + 1, c', fA, A', by go_num, by omega, Lib.hid (by rw [HE2.out]; exact HNF.out), Lib.hid (by rw [HE1.out, List.length_append, ← HNL.out]; rfl), HM8.out, by rw [HE2.out]; exact HF8, HO8, HH8⟩
            case measure => simp [intOf]; omega
          | some b =>
            have e1 := isLoose_some hfj
            have p1 : wr.cell? ⟨P, j, none⟩ = some (.int .i64 (b : Int)) := by rw [p0]; unfold othV; rw [hfj]; rfl
            clear p0
            have q1 : ¬ (b : Int) < 0 := by omega
            by_cases hjb : j < b
            · have e2 := folio_some hfj hjb
              have HE1 := Lib.hid e1
              have HE2 := Lib.hid e2
              have q2 : (b : Int) > (j : Int) := by omega
              clear e1 e2 hfj
              have hlP : P < M := by have h1 := HN.out; have h2 := HM.out; have h3 := HMM.out; have h6 := HP.out; omega
              have hPN : N2 ≠ P := by have h1 := HN2.out; have h2 := HP.out; omega
              obtain ⟨v', w7, hr, hown', hg⟩ := run_append_rdK (P := Tryz.prog) (wr.drew.alloc (.cells #[.int .i64 j, .int .i64 b] 36)) M 25 25 36 j0 _ 2 16 Tryz.underlying25 HJ0.out HJZ0.out HJZ1.out HJZ2.out rfl (by omega) (.slice fA nf fc) nf (folV (foliosTo f j)) ((show wr.drew.ownsRow M 36 2 (.slice fA nf fc) nf (folV (foliosTo f j)) from HOF.out).alloc _) (some ⟨wr.drew.heap.size, 0, none⟩) 1 1 [.int .i64 j, .int .i64 b] (by simp [Value.oneCell']) (rd_new _ 1 2 rfl rfl) (by simp) (by have h1 := HNF.out; have h2 := folios_len f j; omega) (by omega) (by simp; omega)
              have hb7 : Below M wr.drew w7 := ((Below.refl M wr.drew).alloc (show M ≤ wr.drew.heap.size from hMx) _).grown hg (by simp; omega) (fun q hq => (HOF.out.lt q hq).1)
              have holA := (show wr.drew.ownsRow M 3 1 (.slice lA nl lc) nl (looV (looseTo f j)) from HOL.out).alloc (.cells #[.int .i64 j, .int .i64 b] 36)
              have hol7 := own_kept holA hg (own_apart holA ((show wr.drew.ownsRow M 36 2 (.slice fA nf fc) nf (folV (foliosTo f j)) from HOF.out).alloc (.cells #[.int .i64 j, .int .i64 b] 36)) (by decide))
              clear holA
              obtain ⟨A', c', rfl, hnc', hcm'⟩ := own_form hown'
              rw [show folV (foliosTo f j) ++ [Value.int .i64 (j : Int), .int .i64 (b : Int)] = folV (foliosTo f (j + 1)) by rw [HE2.out, folV_snoc]; rfl] at hown'
              have H7 := H.drew.keepM (HLM.out _ _ _ _ _ _ _ _) HWM.out hb7
              have HR := Lib.hid hr
              obtain ⟨⟨c0', c1', c2'⟩, z0', z1', z2'⟩ := blk3 (H7.blk 2 _ _ _ rfl)
              have H8 := H7.set 2 1 rfl (.slice A' (nf + 1) c')
              dsimp only [List.set_cons_zero, List.set_cons_succ] at H8
              have HO8 := Lib.hid (own_setB hol7 hlN 1 (.slice A' (nf + 1) c'))
              have HF8 := Lib.hid (own_setB hown' hlN 1 (.slice A' (nf + 1) c'))
              have HM8 : Hid (M ≤ (w7.setCell ⟨N2, 1, none⟩ (.slice A' (nf + 1) c')).heap.size) := Lib.hid (by have h := hb7.size; simp at h ⊢; omega)
              have HH8 : Hid (Bx w [(N, #[.int .u8 lv, .int .u64 bits], 24), (N1, #[.int .i64 0, .slice none 0 0, .slice none 0 0], 28), (N2, #[.int .i64 i, .slice A' (nf + 1) c', .slice lA nl lc], 28), (P, (othC f i i).toArray, 3)] (w7.setCell ⟨N2, 1, none⟩ (.slice A' (nf + 1) c'))) := Lib.hid H8
              obtain ⟨S, hSd⟩ : ∃ S : World → Prop, S = fun W' => W'.cell? ⟨P, j, none⟩ = some (.int .i64 (b : Int)) := ⟨_, rfl⟩
              have HSO : Hid (∀ W', S W' → W'.cell? ⟨P, j, none⟩ = some (.int .i64 (b : Int))) := Lib.hid fun W' h => by subst hSd; exact h
              have hS0 : S wr.drew := by subst hSd; exact p1
              have HS6 : Hid (S (wr.drew.alloc (.cells #[.int .i64 j, .int .i64 b] 36))) := Lib.hid (by subst hSd; exact below_cell ((Below.refl _ wr.drew).alloc (Nat.le_refl _) _) p1)
              have HS7 : Hid (S w7) := Lib.hid (by subst hSd; exact (hb7.cell (p := ⟨P, j, none⟩) hlP).trans p1)
              have HS8 : Hid (S (w7.setCell ⟨N2, 1, none⟩ (.slice A' (nf + 1) c'))) := Lib.hid (by
                have h7 := HS7.out
                subst hSd
                exact (World.cell?_setCell_other _ _ _ _ (by intro e; exact hPN (congrArg Addr.block e))).trans h7)
              clear hr hown' hg hb7 hol7 H7 H8 hSd
              go_upto_region 24 with fail
              refine wp_region_held_drew (S := S) (by kernel_rfl) hS0 (fun hS => ?_)
              have e0 : wr.drew.cell? ⟨N2, 1, none⟩ = some (.slice fA nf fc) := c1
              obtain ⟨X0, hX0⟩ : ∃ X0, X0 = wr.drew := ⟨_, rfl⟩
              rw [← hX0] at hS e0 HR HS6 ⊢
              have e1 : (X0.alloc (.cells #[.int .i64 j, .int .i64 b] 36)).cell? ⟨N2, 1, none⟩ = some (.slice fA nf fc) := below_cell ((Below.refl _ X0).alloc (Nat.le_refl _) _) e0
              clear hX0 c0 c1 c2 z0 z1 z2 hS0
              refine wpAnyH_take (i := 0) (v := ?_) rfl (by kernel_rfl) (by kernel_rfl) (by kernel_rfl) (fun _ _ _ h => h) (Or.inl ⟨by rfl, ?_⟩) hS ?_
              rotate_left
              · intro w0 hSw
                have hSw := HSO.out _ hSw
                go_split_ands
                go_simp
                try with_reducible rfl
              try simp only [Act.put, List.getElem_toArray, List.getElem_cons_zero, List.setIfInBounds_toArray, List.set_cons_zero, List.set_cons_succ]
              refine wpAnyH_take (i := 2) (v := ?_) rfl (by kernel_rfl) (by kernel_rfl) (by kernel_rfl) (fun _ _ _ h => h) (Or.inl ⟨by rfl, ?_⟩) hS ?_
              rotate_left
              · intro w0 hSw
                have hSw := HSO.out _ hSw
                go_split_ands
                go_simp
                try with_reducible rfl
              try simp only [Act.put, List.getElem_toArray, List.getElem_cons_zero, List.getElem_cons_succ, List.setIfInBounds_toArray, List.set_cons_zero, List.set_cons_succ]
              refine wpAnyH_take (i := 3) (v := ?_) rfl (by kernel_rfl) (by kernel_rfl) (by kernel_rfl) (fun _ _ _ h => h) (Or.inl ⟨by rfl, ?_⟩) hS ?_
              rotate_left
              · intro w0 hSw
                have hSw := HSO.out _ hSw
                go_split_ands
                go_simp
                try with_reducible rfl
              try simp only [Act.put, List.getElem_toArray, List.getElem_cons_zero, List.getElem_cons_succ, List.setIfInBounds_toArray, List.set_cons_zero, List.set_cons_succ]
              refine wpAnyH_take (i := 4) (v := ?_) rfl (by kernel_rfl) (by kernel_rfl) (by kernel_rfl) (fun _ _ _ h => h) (Or.inl ⟨by rfl, ?_⟩) hS ?_
              rotate_left
              · intro w0 hSw
                have hSw := HSO.out _ hSw
                go_split_ands
                go_simp
                try with_reducible rfl
              try simp only [Act.put, List.getElem_toArray, List.getElem_cons_zero, List.getElem_cons_succ, List.setIfInBounds_toArray, List.set_cons_zero, List.set_cons_succ]
              refine wpAnyH_take (i := 5) (v := ?_) rfl (by kernel_rfl) (by kernel_rfl) (by kernel_rfl) (fun _ _ _ h => h) (Or.inl ⟨by rfl, ?_⟩) hS ?_
              rotate_left
              · intro w0 hSw
                have hSw := HSO.out _ hSw
                go_split_ands
                go_simp
                try with_reducible rfl
              try simp only [Act.put, List.getElem_toArray, List.getElem_cons_zero, List.getElem_cons_succ, List.setIfInBounds_toArray, List.set_cons_zero, List.set_cons_succ]
              refine wpAnyH_take (i := 6) (v := ?_) rfl (by kernel_rfl) (by kernel_rfl) (by kernel_rfl) (fun _ _ _ h => h) (Or.inl ⟨by rfl, ?_⟩) hS ?_
              rotate_left
              · intro w0 hSw
                have hSw := HSO.out _ hSw
                go_split_ands
                go_simp
                try with_reducible rfl
              try simp only [Act.put, List.getElem_toArray, List.getElem_cons_zero, List.getElem_cons_succ, List.setIfInBounds_toArray, List.set_cons_zero, List.set_cons_succ]
              refine wpAnyH_take (i := 7) (v := ?_) rfl (by kernel_rfl) (by kernel_rfl) (by kernel_rfl) (fun _ _ _ h => h) (Or.inl ⟨by rfl, ?_⟩) hS ?_
              rotate_left
              · intro w0 hSw
                have hSw := HSO.out _ hSw
                go_split_ands
                go_simp
                try with_reducible rfl
              try simp only [Act.put, List.getElem_toArray, List.getElem_cons_zero, List.getElem_cons_succ, List.setIfInBounds_toArray, List.set_cons_zero, List.set_cons_succ]
              refine wpAnyH_ready (rs := [1, 8]) (by kernel_rfl) (by simp) (AllReadyH.cons rfl (fun K hK => ?_) (AllReadyH.cons rfl (fun K hK => ?_) AllReadyH.nil))
              · go_simp
                refine hK.out _ _ hS (fun hS => ?_)
                clear hK K
                refine wpAnyH_ready (rs := [8]) (by kernel_rfl) (by simp) (AllReadyH.cons rfl (fun K hK => ?_) AllReadyH.nil)
                go_simp
                refine hK.out _ _ HS6.out (fun hS => ?_)
                clear hK K
                refine wpAnyH_ready (rs := [9]) (by kernel_rfl) (by simp) (AllReadyH.cons rfl (fun K hK => ?_) AllReadyH.nil)
                refine step_app (by simp [Region.wanted, yielded]) (.tmp 88) (.tmp 95) 25 rfl _ _ (by simp [Act.eval]) (by simp [Act.eval]) _ _ HR.out ?_
                refine hK.out _ _ HS7.out (fun hS => ?_)
                clear hK K
                refine wpAnyH_take (i := 10) (v := ?_) rfl (by kernel_rfl) (by kernel_rfl) (by kernel_rfl) (fun _ _ _ h => h) (Or.inl ⟨by rfl, ?_⟩) hS ?_
                rotate_left
                · intro w0 hSw
                  have hSw := HSO.out _ hSw
                  go_split_ands
                  go_simp
                  try with_reducible rfl
                try simp only [Act.put, List.getElem_toArray, List.getElem_cons_zero, List.getElem_cons_succ, List.setIfInBounds_toArray, List.set_cons_zero, List.set_cons_succ]
                refine wpAnyH_ready (rs := [11]) (by kernel_rfl) (by simp) (AllReadyH.cons rfl (fun K hK => ?_) AllReadyH.nil)
                go_simp
                refine hK.out _ _ HS8.out (fun hS => ?_)
                clear hK K
                refine wpAnyH_done (by kernel_rfl) ?_ _
                go_wp2_with fail
                go_roundw
                case rel => exact ⟨j + 1, nf + 1, c', nl, lc, A', lA, by go_num, by omega, Lib.hid (by rw [HE2.out, List.length_append, ← HNF.out]; rfl), Lib.hid (by rw [HE1.out]; exact HNL.out), HM8.out, HF8, by rw [HE1.out]; exact HO8, HH8⟩
                case measure => simp [intOf]; omega
              · go_simp
                refine hK.out _ _ HS6.out (fun hS => ?_)
                clear hK K
                refine wpAnyH_ready (rs := [1]) (by kernel_rfl) (by simp) (AllReadyH.cons rfl (fun K hK => ?_) AllReadyH.nil)
                go_simp
                refine hK.out _ _ HS6.out (fun hS => ?_)
                clear hK K
                refine wpAnyH_ready (rs := [9]) (by kernel_rfl) (by simp) (AllReadyH.cons rfl (fun K hK => ?_) AllReadyH.nil)
                refine step_app (by simp [Region.wanted, yielded]) (.tmp 88) (.tmp 95) 25 rfl _ _ (by simp [Act.eval]) (by simp [Act.eval]) _ _ HR.out ?_
                refine hK.out _ _ HS7.out (fun hS => ?_)
                clear hK K
                refine wpAnyH_take (i := 10) (v := ?_) rfl (by kernel_rfl) (by kernel_rfl) (by kernel_rfl) (fun _ _ _ h => h) (Or.inl ⟨by rfl, ?_⟩) hS ?_
                rotate_left
                · intro w0 hSw
                  have hSw := HSO.out _ hSw
                  go_split_ands
                  go_simp
                  try with_reducible rfl
                try simp only [Act.put, List.getElem_toArray, List.getElem_cons_zero, List.getElem_cons_succ, List.setIfInBounds_toArray, List.set_cons_zero, List.set_cons_succ]
                refine wpAnyH_ready (rs := [11]) (by kernel_rfl) (by simp) (AllReadyH.cons rfl (fun K hK => ?_) AllReadyH.nil)
                go_simp
                refine hK.out _ _ HS8.out (fun hS => ?_)
                clear hK K
                refine wpAnyH_done (by kernel_rfl) ?_ _
                go_wp2_with fail
                go_roundw
                case rel => exact ⟨j + 1, nf + 1, c', nl, lc, A', lA, by go_num, by omega, Lib.hid (by rw [HE2.out, List.length_append, ← HNF.out]; rfl), Lib.hid (by rw [HE1.out]; exact HNL.out), HM8.out, HF8, by rw [HE1.out]; exact HO8, HH8⟩
                case measure => simp [intOf]; omega
            · have e2 := folio_back hfj hjb
              have HE1 := Lib.hid e1
              have HE2 := Lib.hid e2
              have q2 : ¬ (b : Int) > (j : Int) := by omega
              clear e1 e2 hfj
              as_aux_lemma =>
              go_wp2_with fail
              go_roundw
              case rel => exact ⟨j + 1, nf, fc, nl, lc, fA, lA, by go_num, by omega, Lib.hid (by rw [HE2.out]; exact HNF.out), Lib.hid (by rw [HE1.out]; exact HNL.out), hMx, by rw [HE2.out]; exact HOF, by rw [HE1.out]; exact HOL, HB⟩
              case measure => simp [intOf]; omega
        · obtain rfl : j = i := by omega
          have q0 : ¬ (j : Int) < (j : Int) := by omega
          obtain ⟨⟨d0, d1, d2⟩, y0, y1, y2⟩ := blk3 (H.blk 1 _ _ _ rfl)
          obtain ⟨A1, k1, f1, f2, f3⟩ := own_ok HOF.out
          obtain ⟨A2, k2, l1, l2, l3⟩ := own_ok HOL.out
          obtain ⟨rfl, rfl⟩ : fA = A1 ∧ fc = k1 := by simpa using f1
          obtain ⟨rfl, rfl⟩ : lA = A2 ∧ lc = k2 := by simpa using l1
          have hl1 : N1 < M := by have h1 := HN.out; have h2 := HM.out; have h3 := HMM.out; have h6 := HN1.out; omega
          have ho1 := own_setB (own_setB (own_setB HOF.out hl1 0 (.int .i64 (j : Int))) hl1 1 (.slice fA nf fc)) hl1 2 (.slice lA nl lc)
          have ho2 := own_setB (own_setB (own_setB HOL.out hl1 0 (.int .i64 (j : Int))) hl1 1 (.slice fA nf fc)) hl1 2 (.slice lA nl lc)
          have HBA : Hid (BAt (((wr.setCell ⟨N1, 0, none⟩ (.int .i64 (j : Int))).setCell ⟨N1, 1, none⟩ (.slice fA nf fc)).setCell ⟨N1, 2, none⟩ (.slice lA nl lc)) f j fA lA nf fc nl lc) := Lib.hid ⟨HNF.out, HNL.out, Rd.of_own ho1, Rd.of_own ho2, f2, l2, f3, l3⟩
          have H9 := ((H.set 1 0 rfl (.int .i64 (j : Int))).set 1 1 rfl (.slice fA nf fc)).set 1 2 rfl (.slice lA nl lc)
          clear f1 f2 f3 l1 l2 l3 ho1 ho2
          go_wp2_with fail
          exact bodyPost_ret (res_cell rfl rfl (H9.range 1 rfl) Tryz.underlying28 rfl (by kernel_rfl)) rfl ⟨fA, lA, nf, fc, nl, lc, rfl, by rw [← HF.out]; exact HBA.out, H9.below⟩
end Go.Proofs.YtdkijcmhjeaofaaGreatDoor
namespace Go.Proofs.YtdkijcmhjeaofaaGreatDoor
open Go.RowKit

theorem okC_dec (P : Prop) [Decidable P] (b : Bool) (h : b = true ↔ P) : (¬ P → b = false) ∧ (P → b = true) := ⟨fun hn => by cases b; rfl; exact absurd (h.1 rfl) hn, h.2⟩
/-- A cell is valid. -/
def okC (x y q : Int) : Bool := decide (-4096 ≤ x) && decide (x ≤ 4096) && decide (-4096 ≤ y) && decide (y ≤ 4096) && decide (q ≤ 3)
theorem okC_iff {x y q : Int} : okC x y q = true ↔ -4096 ≤ x ∧ x ≤ 4096 ∧ -4096 ≤ y ∧ y ≤ 4096 ∧ q ≤ 3 := by
  unfold okC
  simp
  omega
theorem okC_no {x y q : Int} (h : ¬ (-4096 ≤ x ∧ x ≤ 4096 ∧ -4096 ≤ y ∧ y ≤ 4096 ∧ q ≤ 3)) : okC x y q = false := by
  rw [← Bool.not_eq_true, okC_iff]; exact h
/-- 0 if it is so, else the error code e. -/
def ec (b : Bool) (e : Int) : Int := if b then 0 else e
theorem ec_t (e : Int) : ec true e = 0 := rfl
theorem ec_f (e : Int) : ec false e = e := rfl

set_option maxHeartbeats 1000000 in
theorem cellCheck_any (x y q : Int) (w : World) :
    Calls Tryz.prog 155 #[.agg #[.int .i64 x, .int .i64 y, .int .u8 q]] w (RetBelow (.int .i64 (ec (okC x y q) 1)) w) := by
  go_enter Tryz.func155, Tryz.ntmps155
  go_wp2_with fail
  all_goals go_ret
  all_goals refine ⟨ret_int ?_, (Below.refl _ _).alloc (Nat.le_refl _) _⟩
  all_goals first | rw [okC_no (by omega), ec_f] | rw [okC_iff.2 (by omega), ec_t]

/-- A sheet is valid. -/
def okS (a b : Int) : Bool := decide (1 ≤ a) && decide (1 ≤ b) && decide (a ≤ 256) && decide (b ≤ 256) && decide (a * b ≤ 256)
theorem okS_iff {a b : Int} : okS a b = true ↔ 1 ≤ a ∧ 1 ≤ b ∧ a ≤ 256 ∧ b ≤ 256 ∧ a * b ≤ 256 := by
  unfold okS
  simp only [Bool.and_eq_true, decide_eq_true_eq, and_assoc]
theorem okS_no {a b : Int} (h : ¬ (1 ≤ a ∧ 1 ≤ b ∧ a ≤ 256 ∧ b ≤ 256 ∧ a * b ≤ 256)) : okS a b = false := by
  rw [← Bool.not_eq_true, okS_iff]; exact h

set_option maxHeartbeats 1000000 in
theorem sheetCheck_any (a b : Int) (w : World) :
    Calls Tryz.prog 12 #[.agg #[.int .i64 a, .int .i64 b]] w (RetBelow (.int .i64 (ec (okS a b) 1)) w) := by
  by_cases hr : 1 ≤ a ∧ 1 ≤ b ∧ a ≤ 256 ∧ b ≤ 256
  · obtain ⟨h1, h2, h3, h4⟩ := hr
    have hm : 0 ≤ a * b ∧ a * b ≤ 65536 := by
      refine ⟨Int.mul_nonneg (by omega) (by omega), ?_⟩
      have e1 : a * b ≤ 256 * b := Int.mul_le_mul_of_nonneg_right h3 (by omega)
      omega
    obtain ⟨m, hm'⟩ : ∃ m, a * b = m := ⟨_, rfl⟩
    rw [hm'] at hm
    obtain ⟨hm1, hm2⟩ := hm
    have e : okS a b = decide (m ≤ 256) := by
      by_cases hk : m ≤ 256
      · rw [okS_iff.2 ⟨h1, h2, h3, h4, by omega⟩]; simp [hk]
      · rw [okS_no (fun h => hk (by have := h.2.2.2.2; omega))]; simp [hk]
    rw [e]
    clear e
    go_enter Tryz.func12, Tryz.ntmps12
    go_wp2_with fail
    all_goals go_ret
    all_goals refine ⟨ret_int ?_, (Below.refl _ _).alloc (Nat.le_refl _) _⟩
    all_goals first | rw [decide_eq_false (by omega), ec_f] | rw [decide_eq_true (by omega), ec_t]
  · rw [okS_no (fun h => hr ⟨h.1, h.2.1, h.2.2.1, h.2.2.2.1⟩), ec_f]
    go_enter Tryz.func12, Tryz.ntmps12
    go_wp2_with fail
    all_goals go_ret
    all_goals first | exact ⟨rfl, (Below.refl _ _).alloc (Nat.le_refl _) _⟩ | (exfalso; omega)
end Go.Proofs.YtdkijcmhjeaofaaGreatDoor
namespace Go.Proofs.YtdkijcmhjeaofaaGreatDoor

/-- A line is valid. -/
def okL (k c : Int) : Bool := decide (1 ≤ k) && decide (k ≤ 4) && decide (-4096 ≤ c) && decide (c ≤ 4096)
theorem okL_iff {k c : Int} : okL k c = true ↔ 1 ≤ k ∧ k ≤ 4 ∧ -4096 ≤ c ∧ c ≤ 4096 := by unfold okL; simp; omega
theorem okL_no {k c : Int} (h : ¬ (1 ≤ k ∧ k ≤ 4 ∧ -4096 ≤ c ∧ c ≤ 4096)) : okL k c = false := by rw [← Bool.not_eq_true, okL_iff]; exact h
/-- A point is valid. -/
def okP (x y : Int) : Bool := decide (-65536 ≤ x) && decide (x ≤ 65536) && decide (-65536 ≤ y) && decide (y ≤ 65536)
theorem okP_iff {x y : Int} : okP x y = true ↔ -65536 ≤ x ∧ x ≤ 65536 ∧ -65536 ≤ y ∧ y ≤ 65536 := by unfold okP; simp; omega
theorem okP_no {x y : Int} (h : ¬ (-65536 ≤ x ∧ x ≤ 65536 ∧ -65536 ≤ y ∧ y ≤ 65536)) : okP x y = false := by rw [← Bool.not_eq_true, okP_iff]; exact h
/-- 2C on a line of a kind through a point. -/
def alongF (k x y : Int) : Int := if k = 1 then x else if k = 2 then y else if k = 3 then x + y else y - x
def sideP (k c x y : Int) : Int := if alongF k x y < 2 * c then -1 else if 2 * c < alongF k x y then 1 else 0

/-- A number of places is not too great. -/
def nearB (n : Int) : Bool := decide (-16384 ≤ n) && decide (n ≤ 16384)
/-- A move is valid. -/
def okM (t x y : Int) : Bool := decide (t < 8) && nearB x && nearB y && decide ((x + y) % 2 = 0)
theorem okM_iff {t x y : Int} : okM t x y = true ↔ t < 8 ∧ (-16384 ≤ x ∧ x ≤ 16384) ∧ (-16384 ≤ y ∧ y ≤ 16384) ∧ (x + y) % 2 = 0 := by
  unfold okM nearB; simp only [Bool.and_eq_true, decide_eq_true_eq, and_assoc]
theorem okM_no {t x y : Int} (h : ¬ (t < 8 ∧ (-16384 ≤ x ∧ x ≤ 16384) ∧ (-16384 ≤ y ∧ y ≤ 16384) ∧ (x + y) % 2 = 0)) : okM t x y = false := by
  rw [← Bool.not_eq_true, okM_iff]; exact h

/-- The matrices of the turns. -/
def mat : Nat → Int × Int × Int × Int
  | 0 => (1, 0, 0, 1) | 1 => (0, -1, 1, 0) | 2 => (-1, 0, 0, -1) | 3 => (0, 1, -1, 0)
  | 4 => (-1, 0, 0, 1) | 5 => (0, -1, -1, 0) | 6 => (1, 0, 0, -1) | _ => (0, 1, 1, 0)
def matOf (m : Int × Int × Int × Int) (x y : Int) : Int × Int := (m.1 * x + m.2.1 * y, m.2.2.1 * x + m.2.2.2 * y)
/-- One turn, and then another one. -/
def matThen (m n : Int × Int × Int × Int) : Int × Int × Int × Int := ((matOf n m.1 m.2.2.1).1, (matOf n m.2.1 m.2.2.2).1, (matOf n m.1 m.2.2.1).2, (matOf n m.2.1 m.2.2.2).2)
def matNum (m : Int × Int × Int × Int) : Nat := if m = mat 0 then 0 else if m = mat 1 then 1 else if m = mat 2 then 2 else if m = mat 3 then 3 else if m = mat 4 then 4 else if m = mat 5 then 5 else if m = mat 6 then 6 else if m = mat 7 then 7 else 0
/-- A valid move. -/
structure Mv where
  t : Nat
  x : Int
  y : Int
deriving DecidableEq
def Mv.ok (m : Mv) : Bool := okM m.t m.x m.y
def Mv.cells (m : Mv) : List Value := [.int .u8 m.t, .int .i64 m.x, .int .i64 m.y]
def Mv.v (m : Mv) : Value := .agg #[.int .u8 m.t, .int .i64 m.x, .int .i64 m.y]
def mv0 : Mv := ⟨0, 0, 0⟩
/-- The reflection in a line. -/
def ofL (k c : Int) : Mv := if k = 1 then ⟨4, 2 * c, 0⟩ else if k = 2 then ⟨6, 0, 2 * c⟩ else if k = 3 then ⟨5, c, c⟩ else ⟨7, -c, c⟩
/-- A move, or nothing and the error 3. -/
def limM (m : Mv) : Mv × Int := if m.ok then (m, 0) else (mv0, 3)
/-- One valid move and then another one. -/
def thenM (a b : Mv) : Mv × Int := limM ⟨matNum (matThen (mat a.t) (mat b.t)), (matOf (mat b.t) a.x a.y).1 + b.x, (matOf (mat b.t) a.x a.y).2 + b.y⟩
/-- Where a point goes. -/
def pointM (m : Mv) (x y : Int) : Int × Int := ((matOf (mat m.t) x y).1 + 2 * m.x, (matOf (mat m.t) x y).2 + 2 * m.y)

/-- A cell of the plane. -/
structure Cl where
  x : Int
  y : Int
  q : Nat
deriving DecidableEq
def Cl.ok (c : Cl) : Bool := okC c.x c.y c.q
def Cl.cells (c : Cl) : List Value := [.int .i64 c.x, .int .i64 c.y, .int .u8 c.q]
def Cl.v (c : Cl) : Value := .agg #[.int .i64 c.x, .int .i64 c.y, .int .u8 c.q]
def cl0 : Cl := ⟨0, 0, 0⟩
/-- From the middle of a square to that of the edge 0 of a quarter. -/
def qside : Nat → Int × Int
  | 0 => (0, -1) | 1 => (1, 0) | 2 => (0, 1) | _ => (-1, 0)
def sideQ (d : Int × Int) : Nat := if d = qside 3 then 3 else if d = qside 2 then 2 else if d = qside 1 then 1 else 0
/-- Where a valid move moves a valid cell. -/
def movedC (m : Mv) (c : Cl) : Cl := ⟨(pointM m (2 * c.x + 1) (2 * c.y + 1)).1 / 2, (pointM m (2 * c.x + 1) (2 * c.y + 1)).2 / 2, sideQ (matOf (mat m.t) (qside c.q).1 (qside c.q).2)⟩
def moveC (m : Mv) (c : Cl) : Cl × Int := if (movedC m c).ok then (movedC m c, 0) else (cl0, 3)
/-- The corners 1 and 2 of a quarter, from the corner of the square. -/
def qone : Nat → Int × Int
  | 0 => (0, 0) | 1 => (2, 2) | 2 => (2, 2) | _ => (0, 0)
def qtwo : Nat → Int × Int
  | 0 => (2, 0) | 1 => (2, 0) | 2 => (0, 2) | _ => (0, 2)
/-- The side of a valid cell, of a valid line. -/
def sideC (k c : Int) (e : Cl) : Nat :=
  if sideP k c (2 * e.x + 1) (2 * e.y + 1) = 1 ∨ sideP k c (2 * e.x + (qone e.q).1) (2 * e.y + (qone e.q).2) = 1 ∨ sideP k c (2 * e.x + (qtwo e.q).1) (2 * e.y + (qtwo e.q).2) = 1 then 1 else 0
/-- The order of cells. -/
def cmpC (a b : Cl) : Int := if cmpI a.y b.y ≠ 0 then cmpI a.y b.y else if cmpI a.x b.x ≠ 0 then cmpI a.x b.x else cmpI a.q b.q
/-- The line of an edge of a valid cell. -/
def lineC0 (c : Cl) (e : Nat) : Int × Int :=
  if e = 1 then (3, c.x + c.y + 1) else if e = 2 then (4, c.y - c.x)
  else match c.q with
    | 0 => (2, c.y) | 1 => (1, c.x + 1) | 2 => (2, c.y + 1) | _ => (1, c.x)
def lineE (c : Cl) (e : Nat) : (Int × Int) × Int := if okL (lineC0 c e).1 (lineC0 c e).2 then (lineC0 c e, 0) else ((0, 0), 3)
end Go.Proofs.YtdkijcmhjeaofaaGreatDoor
namespace Go.Proofs.YtdkijcmhjeaofaaGreatDoor
namespace Ex

/-! Tries: keys from 1 on, by their binary digits. -/
inductive Tr (α : Type) where
  | e
  | n (l : Tr α) (v : Option α) (r : Tr α)

variable {α β : Type}

theorem beq_t {a b : Nat} (h : a = b) : Nat.beq a b = true := by subst h; exact Nat.beq_refl a
theorem beq_f {a b : Nat} (h : a ≠ b) : Nat.beq a b = false := by
  cases e : Nat.beq a b with
  | false => rfl
  | true => exact absurd (Nat.eq_of_beq_eq_true e) h

noncomputable def bif' {γ : Type} (c : Bool) (a b : γ) : γ := Bool.rec b a c
theorem bif'_true {γ : Type} (a b : γ) : bif' true a b = a := rfl
theorem bif'_false {γ : Type} (a b : γ) : bif' false a b = b := rfl

/-! Forced numbers. -/
noncomputable def fNat {γ : Type} (n : Nat) (k : Nat → γ) : γ := Nat.rec (k 0) (fun m _ => k (Nat.succ m)) n
noncomputable def fInt {γ : Type} (n : Int) (k : Int → γ) : γ := Int.rec (fun m => fNat m fun m => k (.ofNat m)) (fun m => fNat m fun m => k (.negSucc m)) n
theorem fNat_eq {γ : Type} (n : Nat) (k : Nat → γ) : fNat n k = k n := by cases n <;> rfl
theorem fInt_eq {γ : Type} (n : Int) (k : Int → γ) : fInt n k = k n := by
  cases n with
  | ofNat m => exact fNat_eq m fun m => k (.ofNat m)
  | negSucc m => exact fNat_eq m fun m => k (.negSucc m)

noncomputable def Tr.get (t : Tr α) : Nat → Option α :=
  Tr.rec (motive := fun _ => Nat → Option α) (fun _ => none)
    (fun _ v _ gl gr k => Bool.rec (Bool.rec (gr (Nat.div k 2)) (gl (Nat.div k 2)) (Nat.beq (Nat.mod k 2) 0)) v (Nat.beq k 1)) t

noncomputable def Tr.put (v : α) (fuel : Nat) : Tr α → Nat → Tr α :=
  Nat.rec (motive := fun _ => Tr α → Nat → Tr α) (fun t _ => t)
    (fun _ ih t k => Tr.rec (motive := fun _ => Tr α)
      (Bool.rec (Bool.rec (.n .e none (ih .e (Nat.div k 2))) (.n (ih .e (Nat.div k 2)) none .e) (Nat.beq (Nat.mod k 2) 0)) (.n .e (some v) .e) (Nat.beq k 1))
      (fun l x r _ _ => Bool.rec (Bool.rec (.n l x (ih r (Nat.div k 2))) (.n (ih l (Nat.div k 2)) x r) (Nat.beq (Nat.mod k 2) 0)) (.n l (some v) r) (Nat.beq k 1)) t) fuel

theorem Tr.get_e (k : Nat) : (Tr.e : Tr α).get k = none := rfl

theorem Tr.get_n (l r : Tr α) (v : Option α) (k : Nat) : (Tr.n l v r).get k = if k = 1 then v else if k % 2 = 0 then l.get (k / 2) else r.get (k / 2) := by
  show (Bool.rec (Bool.rec (r.get (Nat.div k 2)) (l.get (Nat.div k 2)) (Nat.beq (Nat.mod k 2) 0)) v (Nat.beq k 1) : Option α) = _
  by_cases h1 : k = 1
  · subst h1; rfl
  · have e1 : Nat.beq k 1 = false := beq_f h1
    rw [e1, if_neg h1]
    by_cases h2 : k % 2 = 0
    · have e2 : Nat.beq (Nat.mod k 2) 0 = true := beq_t h2
      rw [e2, if_pos h2]; rfl
    · have e2 : Nat.beq (Nat.mod k 2) 0 = false := beq_f h2
      rw [e2, if_neg h2]; rfl

theorem Tr.put_e (v : α) (f k : Nat) : Tr.put v (f + 1) .e k = if k = 1 then .n .e (some v) .e else if k % 2 = 0 then .n (Tr.put v f .e (k / 2)) none .e else .n .e none (Tr.put v f .e (k / 2)) := by
  show (Bool.rec (Bool.rec (Tr.n .e none (Tr.put v f .e (Nat.div k 2))) (Tr.n (Tr.put v f .e (Nat.div k 2)) none .e) (Nat.beq (Nat.mod k 2) 0)) (Tr.n .e (some v) .e) (Nat.beq k 1) : Tr α) = _
  by_cases h1 : k = 1
  · subst h1; rfl
  · have e1 : Nat.beq k 1 = false := beq_f h1
    rw [e1, if_neg h1]
    by_cases h2 : k % 2 = 0
    · have e2 : Nat.beq (Nat.mod k 2) 0 = true := beq_t h2
      rw [e2, if_pos h2]; rfl
    · have e2 : Nat.beq (Nat.mod k 2) 0 = false := beq_f h2
      rw [e2, if_neg h2]; rfl

theorem Tr.put_n (v : α) (f k : Nat) (l r : Tr α) (x : Option α) :
    Tr.put v (f + 1) (.n l x r) k = if k = 1 then .n l (some v) r else if k % 2 = 0 then .n (Tr.put v f l (k / 2)) x r else .n l x (Tr.put v f r (k / 2)) := by
  show (Bool.rec (Bool.rec (Tr.n l x (Tr.put v f r (Nat.div k 2))) (Tr.n (Tr.put v f l (Nat.div k 2)) x r) (Nat.beq (Nat.mod k 2) 0)) (Tr.n l (some v) r) (Nat.beq k 1) : Tr α) = _
  by_cases h1 : k = 1
  · subst h1; rfl
  · have e1 : Nat.beq k 1 = false := beq_f h1
    rw [e1, if_neg h1]
    by_cases h2 : k % 2 = 0
    · have e2 : Nat.beq (Nat.mod k 2) 0 = true := beq_t h2
      rw [e2, if_pos h2]; rfl
    · have e2 : Nat.beq (Nat.mod k 2) 0 = false := beq_f h2
      rw [e2, if_neg h2]; rfl

theorem Tr.get_put_same (v : α) : ∀ (f : Nat) (t : Tr α) (k : Nat), 1 ≤ k → k < 2 ^ f → (Tr.put v f t k).get k = some v := by
  intro f
  induction f with
  | zero => intro t k h1 h2; omega
  | succ f ih =>
    intro t k h1 h2
    have h3 : k ≠ 1 → 1 ≤ k / 2 := by omega
    have h4 : k / 2 < 2 ^ f := by rw [Nat.pow_succ] at h2; omega
    cases t with
    | e =>
      rw [Tr.put_e]
      by_cases h : k = 1
      · simp [h, Tr.get_n]
      · by_cases hm : k % 2 = 0 <;> simp [h, hm, Tr.get_n, ih _ _ (h3 h) h4]
    | n l x r =>
      rw [Tr.put_n]
      by_cases h : k = 1
      · simp [h, Tr.get_n]
      · by_cases hm : k % 2 = 0 <;> simp [h, hm, Tr.get_n, ih _ _ (h3 h) h4]

theorem Tr.get_put_ne (v : α) : ∀ (f : Nat) (t : Tr α) (k j : Nat), 1 ≤ k → 1 ≤ j → j ≠ k → (Tr.put v f t k).get j = t.get j := by
  intro f
  induction f with
  | zero => intro t k j _ _ _; rfl
  | succ f ih =>
    intro t k j h1 h2 hne
    cases t with
    | e =>
      rw [Tr.put_e]
      by_cases h : k = 1
      · subst h; simp [Tr.get_n, Tr.get_e, hne]
      · by_cases hm : k % 2 = 0
        · by_cases hj : j = 1
          · simp [h, hm, hj, Tr.get_n, Tr.get_e]
          · by_cases hjm : j % 2 = 0
            · simp only [h, hm, Tr.get_n, Tr.get_e, hj, hjm, if_true, if_false]
              rw [ih _ _ _ (by omega) (by omega) (by omega)]; rfl
            · simp [h, hm, Tr.get_n, Tr.get_e, hj, hjm]
        · by_cases hj : j = 1
          · simp [h, hm, hj, Tr.get_n, Tr.get_e]
          · by_cases hjm : j % 2 = 0
            · simp [h, hm, Tr.get_n, Tr.get_e, hj, hjm]
            · simp only [h, hm, Tr.get_n, Tr.get_e, hj, hjm, if_false]
              rw [ih _ _ _ (by omega) (by omega) (by omega)]; rfl
    | n l x r =>
      rw [Tr.put_n]
      by_cases h : k = 1
      · subst h; simp [Tr.get_n, hne]
      · by_cases hm : k % 2 = 0
        · by_cases hj : j = 1
          · simp [h, hm, hj, Tr.get_n]
          · by_cases hjm : j % 2 = 0
            · simp only [h, hm, Tr.get_n, hj, hjm, if_true, if_false]
              rw [ih _ _ _ (by omega) (by omega) (by omega)]
            · simp [h, hm, Tr.get_n, hj, hjm]
        · by_cases hj : j = 1
          · simp [h, hm, hj, Tr.get_n]
          · by_cases hjm : j % 2 = 0
            · simp [h, hm, Tr.get_n, hj, hjm]
            · simp only [h, hm, Tr.get_n, hj, hjm, if_false]
              rw [ih _ _ _ (by omega) (by omega) (by omega)]

/-- The slot i of a trie. -/
noncomputable def Tr.at (t : Tr α) (i : Nat) : Option α := t.get (Nat.succ i)
/-- The head of a trie, forced. -/
noncomputable def headC {γ : Type} (t : Tr α) (k : Tr α → γ) : γ := Tr.rec (motive := fun _ => γ) (k .e) (fun l v r _ _ => k (.n l v r)) t
theorem headC_eq {γ : Type} (t : Tr α) (k : Tr α → γ) : headC t k = k t := by cases t <;> rfl
noncomputable def Tr.putC {γ : Type} (v : α) (fuel : Nat) : Tr α → Nat → (Tr α → γ) → γ :=
  Nat.rec (motive := fun _ => Tr α → Nat → (Tr α → γ) → γ) (fun t _ c => c t)
    (fun _ ih t k c => Bool.rec
      (fNat (Nat.div k 2) fun h => Bool.rec
        (Tr.rec (motive := fun _ => γ) (ih .e h fun r => c (.n .e none r)) (fun l x r _ _ => ih r h fun r => c (.n l x r)) t)
        (Tr.rec (motive := fun _ => γ) (ih .e h fun l => c (.n l none .e)) (fun l x r _ _ => ih l h fun l => c (.n l x r)) t)
        (Nat.beq (Nat.mod k 2) 0))
      (Tr.rec (motive := fun _ => γ) (c (.n .e (some v) .e)) (fun l _ r _ _ => c (.n l (some v) r)) t)
      (Nat.beq k 1)) fuel
theorem Tr.putC_eq {γ : Type} (v : α) : ∀ (f : Nat) (t : Tr α) (k : Nat) (c : Tr α → γ), Tr.putC v f t k c = c (Tr.put v f t k)
  | 0, _, _, _ => rfl
  | f + 1, t, k, c => by
    show (Bool.rec
      (fNat (Nat.div k 2) fun h => Bool.rec
        (Tr.rec (motive := fun _ => γ) (Tr.putC v f .e h fun r => c (.n .e none r)) (fun l x r _ _ => Tr.putC v f r h fun r => c (.n l x r)) t)
        (Tr.rec (motive := fun _ => γ) (Tr.putC v f .e h fun l => c (.n l none .e)) (fun l x r _ _ => Tr.putC v f l h fun l => c (.n l x r)) t)
        (Nat.beq (Nat.mod k 2) 0))
      (Tr.rec (motive := fun _ => γ) (c (.n .e (some v) .e)) (fun l _ r _ _ => c (.n l (some v) r)) t)
      (Nat.beq k 1) : γ) = _
    rw [fNat_eq]
    by_cases h1 : k = 1
    · rw [beq_t h1]
      cases t with
      | e => rw [Tr.put_e, if_pos h1]
      | n l x r => rw [Tr.put_n, if_pos h1]
    · rw [beq_f h1]
      by_cases h2 : k % 2 = 0
      · have e2 : Nat.beq (Nat.mod k 2) 0 = true := beq_t h2
        cases t with
        | e => rw [Tr.put_e, if_neg h1, if_pos h2, e2]; exact Tr.putC_eq v f _ _ _
        | n l x r => rw [Tr.put_n, if_neg h1, if_pos h2, e2]; exact Tr.putC_eq v f _ _ _
      · have e2 : Nat.beq (Nat.mod k 2) 0 = false := beq_f h2
        cases t with
        | e => rw [Tr.put_e, if_neg h1, if_neg h2, e2]; exact Tr.putC_eq v f _ _ _
        | n l x r => rw [Tr.put_n, if_neg h1, if_neg h2, e2]; exact Tr.putC_eq v f _ _ _
/-- A trie with the slot i written, for i below 2^20 - 1. -/
noncomputable def Tr.to (t : Tr α) (i : Nat) (v : α) : Tr α := fNat i fun i => Tr.putC v 20 t (Nat.succ i) fun t => t
theorem Tr.to_put (t : Tr α) (i : Nat) (v : α) : t.to i v = Tr.put v 20 t (Nat.succ i) := by unfold Tr.to; rw [fNat_eq, Tr.putC_eq]

theorem Tr.at_e (i : Nat) : (Tr.e : Tr α).at i = none := rfl
theorem Tr.at_to (t : Tr α) (i j : Nat) (v : α) (hi : i < 1048575) : (t.to i v).at j = if j = i then some v else t.at j := by
  unfold Tr.at
  rw [Tr.to_put]
  by_cases h : j = i
  · subst h; rw [if_pos rfl, Tr.get_put_same _ _ _ _ (by omega) (by simpa using by omega)]
  · rw [if_neg h, Tr.get_put_ne _ _ _ _ _ (by omega) (by omega) (by omega)]
theorem Tr.at_to_some (t : Tr α) (i j : Nat) (v u : α) (h : (t.to i v).at j = some u) : (j = i ∧ u = v) ∨ (j ≠ i ∧ t.at j = some u) ∨ (j = i ∧ ¬ i < 1048575) := by
  by_cases hi : i < 1048575
  · rw [Tr.at_to _ _ _ _ hi] at h
    by_cases hj : j = i
    · rw [if_pos hj] at h; injection h with h; exact .inl ⟨hj, h.symm⟩
    · rw [if_neg hj] at h; exact .inr (.inl ⟨hj, h⟩)
  · by_cases hj : j = i
    · exact .inr (.inr ⟨hj, hi⟩)
    · refine .inr (.inl ⟨hj, ?_⟩)
      unfold Tr.at at h
      rw [Tr.to_put] at h
      rw [Tr.get_put_ne _ _ _ _ _ (by omega) (by omega) (by omega)] at h; exact h

/-! Ways through a trie, told ahead. -/
inductive Pth where
  | h
  | l (p : Pth)
  | r (p : Pth)
noncomputable def pathN (fuel : Nat) : Nat → Pth :=
  Nat.rec (motive := fun _ => Nat → Pth) (fun _ => .h) (fun _ ih k => Bool.rec (Bool.rec (.r (ih (Nat.div k 2))) (.l (ih (Nat.div k 2))) (Nat.beq (Nat.mod k 2) 0)) .h (Nat.beq k 1)) fuel
theorem pathN_succ (f k : Nat) : pathN (f + 1) k = if k = 1 then .h else if k % 2 = 0 then .l (pathN f (k / 2)) else .r (pathN f (k / 2)) := by
  show (Bool.rec (Bool.rec (Pth.r (pathN f (Nat.div k 2))) (Pth.l (pathN f (Nat.div k 2))) (Nat.beq (Nat.mod k 2) 0)) Pth.h (Nat.beq k 1) : Pth) = _
  by_cases h1 : k = 1
  · subst h1; rfl
  · have e1 : Nat.beq k 1 = false := beq_f h1
    rw [e1, if_neg h1]
    by_cases h2 : k % 2 = 0
    · have e2 : Nat.beq (Nat.mod k 2) 0 = true := beq_t h2
      rw [e2, if_pos h2]; rfl
    · have e2 : Nat.beq (Nat.mod k 2) 0 = false := beq_f h2
      rw [e2, if_neg h2]; rfl
noncomputable def fPth {γ : Type} (p : Pth) (k : Pth → γ) : γ := Pth.rec (motive := fun _ => (Pth → γ) → γ) (fun k => k .h) (fun _ ih k => ih fun p => k (.l p)) (fun _ ih k => ih fun p => k (.r p)) p k
theorem fPth_eq {γ : Type} : ∀ (p : Pth) (k : Pth → γ), fPth p k = k p
  | .h, _ => rfl
  | .l p, k => by
    have e : fPth (.l p) k = fPth p (fun p => k (.l p)) := rfl
    rw [e, fPth_eq p]
  | .r p, k => by
    have e : fPth (.r p) k = fPth p (fun p => k (.r p)) := rfl
    rw [e, fPth_eq p]
noncomputable def getP (p : Pth) : Tr α → Option α :=
  Pth.rec (motive := fun _ => Tr α → Option α) (fun t => Tr.rec (motive := fun _ => Option α) none (fun _ v _ _ _ => v) t) (fun _ ih t => Tr.rec (motive := fun _ => Option α) none (fun l _ _ _ _ => ih l) t) (fun _ ih t => Tr.rec (motive := fun _ => Option α) none (fun _ _ r _ _ => ih r) t) p
noncomputable def putP {γ : Type} (v : α) (p : Pth) : Tr α → (Tr α → γ) → γ :=
  Pth.rec (motive := fun _ => Tr α → (Tr α → γ) → γ)
    (fun t c => Tr.rec (motive := fun _ => γ) (c (.n .e (some v) .e)) (fun l _ r _ _ => c (.n l (some v) r)) t)
    (fun _ ih t c => Tr.rec (motive := fun _ => γ) (ih .e fun l => c (.n l none .e)) (fun l x r _ _ => ih l fun l => c (.n l x r)) t)
    (fun _ ih t c => Tr.rec (motive := fun _ => γ) (ih .e fun r => c (.n .e none r)) (fun l x r _ _ => ih r fun r => c (.n l x r)) t) p
theorem getP_path : ∀ (f : Nat) (t : Tr α) (k : Nat), 1 ≤ k → k < 2 ^ f → getP (pathN f k) t = t.get k
  | 0, t, k, h1, h2 => by omega
  | f + 1, t, k, h1, h2 => by
    rw [pathN_succ]
    have h3 : k ≠ 1 → 1 ≤ k / 2 := by omega
    have h4 : k / 2 < 2 ^ f := by rw [Nat.pow_succ] at h2; omega
    by_cases e1 : k = 1
    · rw [if_pos e1]
      cases t with
      | e => rfl
      | n l v r => rw [Tr.get_n, if_pos e1]; rfl
    · rw [if_neg e1]
      by_cases e2 : k % 2 = 0
      · rw [if_pos e2]
        cases t with
        | e => rfl
        | n l v r =>
          rw [Tr.get_n, if_neg e1, if_pos e2, ← getP_path f l (k / 2) (h3 e1) h4]; rfl
      · rw [if_neg e2]
        cases t with
        | e => rfl
        | n l v r =>
          rw [Tr.get_n, if_neg e1, if_neg e2, ← getP_path f r (k / 2) (h3 e1) h4]; rfl
theorem putP_path {γ : Type} (v : α) : ∀ (f : Nat) (t : Tr α) (k : Nat) (c : Tr α → γ), 1 ≤ k → k < 2 ^ f → putP v (pathN f k) t c = c (Tr.put v f t k)
  | 0, t, k, c, h1, h2 => by omega
  | f + 1, t, k, c, h1, h2 => by
    rw [pathN_succ]
    have h3 : k ≠ 1 → 1 ≤ k / 2 := by omega
    have h4 : k / 2 < 2 ^ f := by rw [Nat.pow_succ] at h2; omega
    by_cases e1 : k = 1
    · rw [if_pos e1]
      cases t with
      | e => rw [Tr.put_e, if_pos e1]; rfl
      | n l x r => rw [Tr.put_n, if_pos e1]; rfl
    · rw [if_neg e1]
      by_cases e2 : k % 2 = 0
      · rw [if_pos e2]
        cases t with
        | e =>
          rw [Tr.put_e, if_neg e1, if_pos e2]
          exact putP_path v f .e (k / 2) (fun l => c (.n l none .e)) (h3 e1) h4
        | n l x r =>
          rw [Tr.put_n, if_neg e1, if_pos e2]
          exact putP_path v f l (k / 2) (fun l => c (.n l x r)) (h3 e1) h4
      · rw [if_neg e2]
        cases t with
        | e =>
          rw [Tr.put_e, if_neg e1, if_neg e2]
          exact putP_path v f .e (k / 2) (fun r => c (.n .e none r)) (h3 e1) h4
        | n l x r =>
          rw [Tr.put_n, if_neg e1, if_neg e2]
          exact putP_path v f r (k / 2) (fun r => c (.n l x r)) (h3 e1) h4
/-- The way to a slot below 2^20 - 1. -/
structure Wp where
  p : Pth
noncomputable def pathW (i : Nat) : Wp := fPth (pathN 20 (Nat.succ i)) Wp.mk
theorem pathW_get {i : Nat} (h : i < 1048575) (t : Tr α) : getP (pathW i).p t = t.at i := by
  unfold pathW
  rw [fPth_eq]
  exact getP_path 20 t (i + 1) (by omega) (by simpa using by omega)
theorem pathW_put {γ : Type} {i : Nat} (h : i < 1048575) (v : α) (t : Tr α) (c : Tr α → γ) : putP v (pathW i).p t c = c (t.to i v) := by
  unfold pathW
  rw [fPth_eq, Tr.to_put]
  exact putP_path v 20 t (i + 1) c (by omega) (by simpa using by omega)

end Ex
end Go.Proofs.YtdkijcmhjeaofaaGreatDoor
namespace Go.Proofs.YtdkijcmhjeaofaaGreatDoor
namespace Ex

/-- An abstract value: addresses are numbers of abstract blocks; 'slu' is a slice whose capacity is not known: elements of sz cells, at least lb of them; 'yld' is yield, of the loop whose record has this number. -/
inductive AV where
  | bool (b : Bool)
  | int (k : IntKind) (n : Int)
  | str (l : List Nat)
  | ptr (id off : Nat)
  | nilPtr
  | sl (id off len cap : Nat)
  | slu (id off len sz lb : Nat)
  | nilSl
  | map (id : Nat)
  | nilMap
  | func (f : FuncId) (cap : List AV)
  | nilFunc
  | iface (t : TypeId) (v : AV)
  | nilIface
  | agg (cs : List AV)
  | tup (vs : List AV)
  | yld (id : Nat)

/-- Where the abstract blocks lie, and how many cells they have there. -/
abbrev Rho := Nat → Option (Nat × Nat)

def bytesOf (l : List Nat) : ByteArray := ⟨(l.map UInt8.ofNat).toArray⟩

mutual
def VR (ρ : Rho) : AV → Value → Prop
  | .bool b, x => x = .bool b
  | .int k n, x => x = .int k n
  | .str l, x => x = .string (bytesOf l) ∧ ∀ b ∈ l, b < 256
  | .ptr id off, x => ∃ b n, ρ id = some (b, n) ∧ x = .pointer (some ⟨b, off, none⟩)
  | .nilPtr, x => x = .pointer none
  | .sl id off len cap, x => ∃ b n, ρ id = some (b, n) ∧ x = .slice (some ⟨b, off, none⟩) len cap
  | .slu id off len sz lb, x => ∃ b n c, ρ id = some (b, n) ∧ x = .slice (some ⟨b, off, none⟩) len c ∧ lb ≤ c ∧ off + c * sz ≤ n
  | .nilSl, x => x = .slice none 0 0
  | .map id, x => ∃ b n, ρ id = some (b, n) ∧ x = .map (some b)
  | .nilMap, x => x = .map none
  | .func f cap, x => ∃ xs, x = .func (.func f) #[] xs.toArray ∧ VRL ρ cap xs
  | .nilFunc, x => x = .nilFunc
  | .iface t v, x => ∃ y, x = .iface t y ∧ VR ρ v y
  | .nilIface, x => x = .nilIface
  | .agg cs, x => ∃ xs, x = .agg xs.toArray ∧ VRL ρ cs xs
  | .tup cs, x => ∃ xs, x = .tuple xs.toArray ∧ VRL ρ cs xs
  | .yld id, x => ∃ b n, ρ id = some (b, n) ∧ x = .func (.yield b) #[] #[]
def VRL (ρ : Rho) : List AV → List Value → Prop
  | [], xs => xs = []
  | v :: vs, xs => ∃ y ys, xs = y :: ys ∧ VR ρ v y ∧ VRL ρ vs ys
end

def Rho.le (ρ σ : Rho) : Prop := ∀ i p, ρ i = some p → σ i = some p
theorem Rho.le_refl (ρ : Rho) : ρ.le ρ := fun _ _ h => h
theorem Rho.le_trans {ρ σ τ : Rho} (h : ρ.le σ) (k : σ.le τ) : ρ.le τ := fun i p hi => k i p (h i p hi)

mutual
theorem VR.mono {ρ σ : Rho} (h : ρ.le σ) : ∀ (v : AV) (x : Value), VR ρ v x → VR σ v x
  | .bool _, _, hv | .int _ _, _, hv | .str _, _, hv | .nilPtr, _, hv | .nilSl, _, hv | .nilMap, _, hv | .nilFunc, _, hv | .nilIface, _, hv => by simpa only [VR] using hv
  | .ptr _ _, _, hv => by simp only [VR] at hv ⊢; obtain ⟨b, n, hi, e⟩ := hv; exact ⟨b, n, h _ _ hi, e⟩
  | .sl _ _ _ _, _, hv => by simp only [VR] at hv ⊢; obtain ⟨b, n, hi, e⟩ := hv; exact ⟨b, n, h _ _ hi, e⟩
  | .slu _ _ _ _ _, _, hv => by simp only [VR] at hv ⊢; obtain ⟨b, n, c, hi, e⟩ := hv; exact ⟨b, n, c, h _ _ hi, e⟩
  | .map _, _, hv => by simp only [VR] at hv ⊢; obtain ⟨b, n, hi, e⟩ := hv; exact ⟨b, n, h _ _ hi, e⟩
  | .func _ cap, _, hv => by simp only [VR] at hv ⊢; obtain ⟨xs, e, hx⟩ := hv; exact ⟨xs, e, VRL.mono h cap xs hx⟩
  | .iface _ v, _, hv => by simp only [VR] at hv ⊢; obtain ⟨y, e, hx⟩ := hv; exact ⟨y, e, VR.mono h v y hx⟩
  | .agg cs, _, hv => by simp only [VR] at hv ⊢; obtain ⟨xs, e, hx⟩ := hv; exact ⟨xs, e, VRL.mono h cs xs hx⟩
  | .tup cs, _, hv => by simp only [VR] at hv ⊢; obtain ⟨xs, e, hx⟩ := hv; exact ⟨xs, e, VRL.mono h cs xs hx⟩
  | .yld _, _, hv => by simp only [VR] at hv ⊢; obtain ⟨b, n, hi, e⟩ := hv; exact ⟨b, n, h _ _ hi, e⟩
theorem VRL.mono {ρ σ : Rho} (h : ρ.le σ) : ∀ (vs : List AV) (xs : List Value), VRL ρ vs xs → VRL σ vs xs
  | [], _, hv => by simpa only [VRL] using hv
  | v :: vs, _, hv => by
    simp only [VRL] at hv ⊢
    obtain ⟨y, ys, e, h1, h2⟩ := hv
    exact ⟨y, ys, e, VR.mono h v y h1, VRL.mono h vs ys h2⟩
end

theorem VRL.length {ρ : Rho} : ∀ {vs : List AV} {xs : List Value}, VRL ρ vs xs → xs.length = vs.length
  | [], _, h => by simp only [VRL] at h; simp [h]
  | _ :: _, _, h => by simp only [VRL] at h; obtain ⟨y, ys, e, _, h2⟩ := h; simp [e, VRL.length h2]
theorem VRL.get {ρ : Rho} : ∀ {vs : List AV} {xs : List Value}, VRL ρ vs xs → ∀ (i : Nat) (v : AV), vs[i]? = some v → ∃ x, xs[i]? = some x ∧ VR ρ v x
  | [], _, _, i, v, hi => by simp at hi
  | u :: us, _, h, i, v, hi => by
    simp only [VRL] at h
    obtain ⟨y, ys, e, h1, h2⟩ := h
    subst e
    cases i with
    | zero => simp at hi; subst hi; exact ⟨y, by simp, h1⟩
    | succ i => simp at hi; simpa using VRL.get h2 i v hi
theorem VRL.of_get {ρ : Rho} : ∀ {vs : List AV} {xs : List Value}, xs.length = vs.length → (∀ (i : Nat) (v : AV) (x : Value), vs[i]? = some v → xs[i]? = some x → VR ρ v x) → VRL ρ vs xs
  | [], xs, hl, _ => by simp only [VRL]; simpa using hl
  | u :: us, [], hl, _ => by simp at hl
  | u :: us, y :: ys, hl, h => by
    simp only [VRL]
    exact ⟨y, ys, rfl, h 0 u y (by simp) (by simp), VRL.of_get (by simpa using hl) fun i v x hi hx => h (i + 1) v x (by simpa using hi) (by simpa using hx)⟩
theorem VRL.append {ρ : Rho} : ∀ {vs us : List AV} {xs ys : List Value}, VRL ρ vs xs → VRL ρ us ys → VRL ρ (vs ++ us) (xs ++ ys)
  | [], _, _, _, h, k => by simp only [VRL] at h; subst h; simpa using k
  | _ :: _, _, _, _, h, k => by
    simp only [VRL] at h
    obtain ⟨y, ys, e, h1, h2⟩ := h
    subst e
    simp only [List.cons_append, VRL]
    exact ⟨y, _, rfl, h1, VRL.append h2 k⟩
theorem VRL.take {ρ : Rho} {vs : List AV} {xs : List Value} (h : VRL ρ vs xs) (n : Nat) : VRL ρ (vs.take n) (xs.take n) := by
  refine VRL.of_get (by simp [h.length]) fun i v x hi hx => ?_
  rw [List.getElem?_take] at hi hx
  by_cases hn : i < n
  · rw [if_pos hn] at hi hx
    obtain ⟨y, hy, hv⟩ := h.get i v hi
    rw [hx] at hy; injection hy with hy; subst hy; exact hv
  · simp [hn] at hi
theorem VRL.drop {ρ : Rho} {vs : List AV} {xs : List Value} (h : VRL ρ vs xs) (n : Nat) : VRL ρ (vs.drop n) (xs.drop n) := by
  refine VRL.of_get (by simp [h.length]) fun i v x hi hx => ?_
  rw [List.getElem?_drop] at hi hx
  obtain ⟨y, hy, hv⟩ := h.get _ v hi
  rw [hx] at hy; injection hy with hy; subst hy; exact hv

/-- An abstract block: cells of which some are known (all numbers below n that the trie has), and whether they may be written; or a map. -/
inductive AB where
  | cells (t : Tr AV) (n : Nat) (elem : TypeId) (free : Bool)
  | map (l : List (AV × AV)) (clock : Nat)
  | dead

def AB.live : AB → Bool
  | .dead => false
  | _ => true

/-- Abstract memory: the blocks, and the next number. -/
structure St where
  heap : Tr AB
  next : Nat

def ER (ρ : Rho) : List (AV × AV) → List MapEntry → Prop
  | [], es => es = []
  | (k, v) :: l, es => ∃ e r, es = e :: r ∧ VR ρ k e.key ∧ VR ρ v e.val ∧ ER ρ l r

/-- What an abstract block of n real cells says of the object there. -/
def BR (ρ : Rho) (n : Nat) : AB → Option Obj → Prop
  | .cells t m elem free, o => ∃ c f, o = some (.cells c elem f) ∧ c.size = n ∧ m ≤ n ∧ (∀ j v, t.at j = some v → j < m ∧ ∃ x, c[j]? = some x ∧ VR ρ v x) ∧ (free = true → f = (0, 0))
  | .map l clock, o => ∃ es, o = some (.map es clock) ∧ ER ρ l es.toList
  | .dead, _ => True

theorem ER.mono {ρ σ : Rho} (h : ρ.le σ) : ∀ {l : List (AV × AV)} {es : List MapEntry}, ER ρ l es → ER σ l es
  | [], _, he => by simpa only [ER] using he
  | (k, v) :: l, _, he => by
    simp only [ER] at he ⊢
    obtain ⟨e, r, e1, h1, h2, h3⟩ := he
    exact ⟨e, r, e1, VR.mono h _ _ h1, VR.mono h _ _ h2, ER.mono h h3⟩

theorem BR.mono {ρ σ : Rho} (h : ρ.le σ) {n : Nat} {B : AB} {o : Option Obj} (hb : BR ρ n B o) : BR σ n B o := by
  cases B with
  | cells t m elem free =>
    obtain ⟨c, f, e, h1, h2, h3, h4⟩ := hb
    exact ⟨c, f, e, h1, h2, fun j v hj => let ⟨hm, x, hx, hv⟩ := h3 j v hj; ⟨hm, x, hx, VR.mono h _ _ hv⟩, h4⟩
  | map l clock =>
    obtain ⟨es, e, h1⟩ := hb
    exact ⟨es, e, ER.mono h h1⟩
  | dead => trivial

/-- The world w holds what the abstract memory S tells. -/
structure WR (ρ : Rho) (S : St) (w : World) : Prop where
  inj : ∀ i j b m n A B, S.heap.at i = some A → S.heap.at j = some B → A.live = true → B.live = true → ρ i = some (b, m) → ρ j = some (b, n) → i = j
  dom : ∀ i, S.next ≤ i → ρ i = none ∧ S.heap.at i = none
  lim : S.next < 1048575
  low : ∀ i b n, ρ i = some (b, n) → b < w.heap.size
  blk : ∀ i B, S.heap.at i = some B → ∃ b n, ρ i = some (b, n) ∧ BR ρ n B w.heap[b]?

/-- Every block that is not one of the run's own (known to S, with a number from K on) is as it was. -/
structure Fr (K : Nat) (S : St) (ρ : Rho) (w w' : World) : Prop where
  os : w'.os = w.os
  tape : w'.tape = w.tape
  output : w'.output = w.output
  size : w.heap.size ≤ w'.heap.size
  block : ∀ b, b < w.heap.size → (∀ i n A, K ≤ i → S.heap.at i = some A → A.live = true → ρ i ≠ some (b, n)) → w'.heap[b]? = w.heap[b]?

/-- The map grows; what is known now lies in new blocks, or in those that were known. -/
structure Up (K : Nat) (S S' : St) (ρ σ : Rho) (w : World) : Prop where
  le : ρ.le σ
  next : S.next ≤ S'.next
  old : ∀ i, i < S.next → σ i = ρ i
  keep : ∀ i, i < S.next → S.heap.at i = none → S'.heap.at i = none
  new : ∀ i b n A, S'.heap.at i = some A → A.live = true → σ i = some (b, n) →
    (ρ i = some (b, n) ∧ ∃ A', S.heap.at i = some A' ∧ A'.live = true) ∨ (K ≤ i ∧ (w.heap.size ≤ b ∨ ∃ j m A', K ≤ j ∧ S.heap.at j = some A' ∧ A'.live = true ∧ ρ j = some (b, m)))

theorem Up.refl (K : Nat) (S : St) (ρ : Rho) (w : World) : Up K S S ρ ρ w := ⟨Rho.le_refl ρ, Nat.le_refl _, fun _ _ => rfl, fun _ _ h => h, fun _ _ _ A h hl hr => .inl ⟨hr, A, h, hl⟩⟩
theorem Fr.refl (K : Nat) (S : St) (ρ : Rho) (w : World) : Fr K S ρ w w := ⟨rfl, rfl, rfl, Nat.le_refl _, fun _ _ _ => rfl⟩

theorem Fr.trans {K : Nat} {S S' : St} {ρ σ : Rho} {a b c : World} (h : Fr K S ρ a b) (u : Up K S S' ρ σ a) (k : Fr K S' σ b c) : Fr K S ρ a c := by
  refine ⟨k.os.trans h.os, k.tape.trans h.tape, k.output.trans h.output, Nat.le_trans h.size k.size, fun x hx hn => ?_⟩
  rw [k.block x (Nat.lt_of_lt_of_le hx h.size) ?_, h.block x hx hn]
  intro i n A hi hA hl he
  rcases u.new i x n A hA hl he with ⟨h1, A', h2, h3⟩ | ⟨_, h1 | ⟨j, m, A', hj, h2, h3, h4⟩⟩
  · exact hn i n A' hi h2 h3 h1
  · omega
  · exact hn j m A' hj h2 h3 h4

theorem Up.trans {K : Nat} {S S' S'' : St} {ρ σ τ : Rho} {a b : World} (h : Up K S S' ρ σ a) (hs : a.heap.size ≤ b.heap.size) (k : Up K S' S'' σ τ b) : Up K S S'' ρ τ a := by
  refine ⟨Rho.le_trans h.le k.le, Nat.le_trans h.next k.next, fun i hi => (k.old i (Nat.lt_of_lt_of_le hi h.next)).trans (h.old i hi), fun i hi h0 => k.keep i (Nat.lt_of_lt_of_le hi h.next) (h.keep i hi h0), fun i x n A hA hl he => ?_⟩
  rcases k.new i x n A hA hl he with ⟨h1, A', h2, h3⟩ | ⟨hi, h1 | ⟨j, m, A', hj, h2, h3, h4⟩⟩
  · exact h.new i x n A' h2 h3 h1
  · exact .inr ⟨hi, .inl (Nat.le_trans hs h1)⟩
  · rcases h.new j x m A' h2 h3 h4 with ⟨h5, A2, h6, h7⟩ | ⟨_, h5⟩
    · exact .inr ⟨hi, .inr ⟨j, m, A2, hj, h6, h7, h5⟩⟩
    · exact .inr ⟨hi, h5⟩

/-- A frame: the slots that are known, and how many there are. -/
structure Fm where
  t : Tr AV
  n : Nat

def FR (ρ : Rho) (f : Fm) (a : Act) : Prop := (0 : Nat) = 0 ∧ a.tmps.size = f.n ∧ ∀ i v, f.t.at i = some v → ∃ x, a.tmps[i]? = some x ∧ VR ρ v x

theorem FR.mono {ρ σ : Rho} (h : ρ.le σ) {f : Fm} {a : Act} (hf : FR ρ f a) : FR σ f a :=
  ⟨hf.1, hf.2.1, fun i v hi => let ⟨x, hx, hv⟩ := hf.2.2 i v hi; ⟨x, hx, VR.mono h _ _ hv⟩⟩

/-- A slot is written. -/
noncomputable def Fm.put (f : Fm) (d : Option Nat) (v : AV) : Fm :=
  match d with
  | none => f
  | some d => ⟨f.t.to d v, f.n⟩

theorem FR.put {ρ : Rho} {f : Fm} {a : Act} (hf : FR ρ f a) {d : Option Nat} {v : AV} {x : Value} (hd : ∀ i, d = some i → i < f.n) (hn : ∀ i, d = some i → i < 1048575) (hv : VR ρ v x) : FR ρ (f.put d v) (a.put d x) := by
  cases d with
  | none => exact hf
  | some d =>
    have hlt := hd d rfl
    have hlt2 := hn d rfl
    refine ⟨hf.1, by simp [Act.put, Fm.put, hf.2.1], fun i u hi => ?_⟩
    simp only [Fm.put] at hi
    rw [Tr.at_to _ _ _ _ (by omega)] at hi
    by_cases h : i = d
    · subst h
      rw [if_pos rfl] at hi
      injection hi with hi; subst hi
      exact ⟨x, by simp [Act.put, hf.2.1, hlt], hv⟩
    · rw [if_neg h] at hi
      obtain ⟨y, hy, hu⟩ := hf.2.2 i u hi
      exact ⟨y, by simp [Act.put, Ne.symm h, hy], hu⟩

end Ex
end Go.Proofs.YtdkijcmhjeaofaaGreatDoor
namespace Go.Proofs.YtdkijcmhjeaofaaGreatDoor
namespace Ex

noncomputable def mapO {α β : Type} (g : α → Option β) (l : List α) : Option (List β) :=
  List.rec (some []) (fun x _ ih => Option.rec none (fun y => Option.rec none (fun ys => some (y :: ys)) ih) (g x)) l
theorem mapO_nil {α β : Type} (g : α → Option β) : mapO g [] = some [] := rfl
theorem mapO_cons {α β : Type} {g : α → Option β} {x : α} {l : List α} {r : List β} (h : mapO g (x :: l) = some r) : ∃ y ys, g x = some y ∧ mapO g l = some ys ∧ r = y :: ys := by
  have h : (Option.rec none (fun y => Option.rec none (fun ys => some (y :: ys)) (mapO g l)) (g x) : Option (List β)) = some r := h
  cases hx : g x with
  | none => simp [hx] at h
  | some y =>
    cases hl : mapO g l with
    | none => simp [hx, hl] at h
    | some ys => simp [hx, hl] at h; exact ⟨y, ys, rfl, rfl, h.symm⟩

def cst1 : Value → Option AV
  | .bool b => some (.bool b)
  | .int k n => some (.int k n)
  | .string s => some (.str (s.data.toList.map UInt8.toNat))
  | .pointer none => some .nilPtr
  | .slice none 0 0 => some .nilSl
  | .map none => some .nilMap
  | .nilFunc => some .nilFunc
  | .nilIface => some .nilIface
  | _ => none
noncomputable def cst : Value → Option AV
  | .agg cs => (mapO cst1 cs.toList).map .agg
  | .tuple cs => (mapO cst1 cs.toList).map .tup
  | v => cst1 v

theorem bytes_back (s : ByteArray) : bytesOf (s.data.toList.map UInt8.toNat) = s := by
  cases s with
  | mk d => cases d with
    | mk l => simp [bytesOf, Function.comp_def]

theorem cst1_ok {ρ : Rho} {x : Value} {v : AV} (h : cst1 x = some v) : VR ρ v x := by
  unfold cst1 at h
  split at h <;> first | (injection h with h; subst h; simp only [VR]) | simp at h
  refine ⟨by rw [bytes_back], fun b hb => ?_⟩
  simp only [List.mem_map] at hb
  obtain ⟨u, _, e⟩ := hb
  rw [← e]; exact u.toNat_lt

theorem mapO_VRL {ρ : Rho} {α : Type} {g : α → Option AV} {e : α → Value} (hg : ∀ x v, g x = some v → VR ρ v (e x)) :
    ∀ {l : List α} {r : List AV}, mapO g l = some r → VRL ρ r (l.map e)
  | [], r, h => by simp only [mapO_nil, Option.some.injEq] at h; subst h; simp [VRL]
  | x :: l, r, h => by
    obtain ⟨y, ys, h1, h2, h3⟩ := mapO_cons h
    subst h3
    simp only [List.map_cons, VRL]
    exact ⟨_, _, rfl, hg x y h1, mapO_VRL hg h2⟩

theorem cst_ok {ρ : Rho} {x : Value} {v : AV} (h : cst x = some v) : VR ρ v x := by
  unfold cst at h
  split at h
  · rename_i cs
    cases hm : mapO cst1 cs.toList with
    | none => simp [hm] at h
    | some r =>
      simp [hm] at h; subst h
      simp only [VR]
      exact ⟨cs.toList, by simp, by simpa using mapO_VRL (e := id) (fun x v hx => cst1_ok hx) hm⟩
  · rename_i cs
    cases hm : mapO cst1 cs.toList with
    | none => simp [hm] at h
    | some r =>
      simp [hm] at h; subst h
      simp only [VR]
      exact ⟨cs.toList, by simp, by simpa using mapO_VRL (e := id) (fun x v hx => cst1_ok hx) hm⟩
  · exact cst1_ok h

/-- An operand. -/
noncomputable def aev (f : Fm) : Operand → Option AV
  | .tmp t => f.t.at t
  | .const v => cst v
  | .global _ => none
  | .func g => some (.func g [])

theorem aev_ok {ρ : Rho} {f : Fm} {a : Act} (hf : FR ρ f a) {x : Operand} {v : AV} (h : aev f x = some v) : VR ρ v (a.eval x) := by
  cases x with
  | tmp t =>
    obtain ⟨y, hy, hv⟩ := hf.2.2 t v h
    simpa [Act.eval, Array.getD_eq_getD_getElem?, hy] using hv
  | const c => exact cst_ok h
  | global g => simp [aev] at h
  | func g =>
    simp only [aev, Option.some.injEq] at h; subst h
    simp only [VR, Act.eval]
    exact ⟨[], rfl, by simp [VRL]⟩

end Ex
end Go.Proofs.YtdkijcmhjeaofaaGreatDoor
