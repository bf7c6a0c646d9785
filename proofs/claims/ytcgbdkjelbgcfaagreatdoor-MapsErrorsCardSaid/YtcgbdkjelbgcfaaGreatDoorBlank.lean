/- Contract of maps.blank. -/
import Derived.Test.YtcgbdkjelbgcfaaGreatDoorLines
namespace Go.Proofs.YtcgbdkjelbgcfaaGreatDoor
open Go.RowKit

theorem set_here {w : World} {g i : Nat} {cs : Array Value} {t : TypeId} {v : Value} (h : w.heap[g]? = some (.cells cs t (0, 0))) : (w.setCell ⟨g, i, none⟩ v).heap[g]? = some (.cells (cs.setIfInBounds i v) t (0, 0)) := by
  rw [setCell_eq_setRow w g i cs t (0, 0) v h]
  unfold World.setRow
  rw [Array.getElem?_modify, if_pos rfl, h]
  rfl
theorem set_far {w : World} {g i k : Nat} {v : Value} (h : k ≠ g) : (w.setCell ⟨g, i, none⟩ v).heap[k]? = w.heap[k]? := by
  simp [World.setCell, Array.getElem?_modify, Ne.symm h]
theorem made_one (z : Value) (n : Nat) (hc : z.cells = #[z]) : madeCells z.cells n = (List.replicate n z).toArray := by
  rw [hc]
  apply Array.ext
  · simp [madeCells]
  · intro i h1 h2
    simp [madeCells, Nat.mod_one]
theorem make_rows (n : Nat) (h : n ≤ 1000) (w : World) : (Instr.makeSlice 22 (.int .i64 n) (.int .i64 n)).run Tryz.prog w = .ok (.slice (some ⟨w.heap.size, 0, none⟩) n n) (w.alloc (.cells (List.replicate n (.slice none 0 0)).toArray 27)) := by
  obtain ⟨i0, hi0, hz0, hz1, hz2⟩ := info_parts row_info
  have := run_makeSlice (P := Tryz.prog) w 22 27 i0 _ Tryz.underlying22 hi0 hz0 .i64 .i64 n n (by omega) (by omega) (by rw [hz1]; simp; omega) (by rw [hz2]; omega) (by omega)
  rw [hz1, Nat.mul_one, Int.toNat_natCast, made_one _ n rfl] at this
  exact this
theorem kind_info : (Tryz.prog.info? 28).map (fun i => (i.zero, i.size, i.bytes)) = some (some (.int .u8 0), 1, 1) := by kernel_rfl
theorem make_kinds (n : Nat) (h : n ≤ 1000) (w : World) : (Instr.makeSlice 27 (.int .i64 n) (.int .i64 n)).run Tryz.prog w = .ok (.slice (some ⟨w.heap.size, 0, none⟩) n n) (w.alloc (.cells (List.replicate n (.int .u8 0)).toArray 28)) := by
  obtain ⟨i0, hi0, hz0, hz1, hz2⟩ := info_parts kind_info
  have := run_makeSlice (P := Tryz.prog) w 27 28 i0 _ Tryz.underlying27 hi0 hz0 .i64 .i64 n n (by omega) (by omega) (by rw [hz1]; simp; omega) (by rw [hz2]; omega) (by omega)
  rw [hz1, Nat.mul_one, Int.toNat_natCast, made_one _ n rfl] at this
  exact this

def rowH (n b : Nat) : Value := .slice (some ⟨b, 0, none⟩) n n
def zeroB (n : Nat) : Obj := .cells (List.replicate n (Value.int .u8 0)).toArray 28
/-- A new list of n rows whose blocks are M, M + 1, ..; of them y are laid. -/
def headB (n M k y : Nat) : Obj := .cells (((List.range y).map fun i => rowH k (M + i)) ++ List.replicate (n - y) (Value.slice none 0 0)).toArray 27
structure Laid (w : World) (g n M k y : Nat) : Prop where
  hd : w.heap[g]? = some (headB n M k y)
  row : ∀ i, i < y → w.heap[M + i]? = some (zeroB k)
theorem headB_cell {w : World} {g n M k y : Nat} (h : w.heap[g]? = some (headB n M k y)) (hy : y < n) : w.cell? ⟨g, y, none⟩ = some (.slice none 0 0) ∧ w.frozen? ⟨g, y, none⟩ = false := by
  unfold headB at h
  constructor
  · rw [cell_of_row _ _ y _ _ _ h]
    obtain ⟨m, rfl⟩ : ∃ m, n = y + 1 + m := ⟨n - y - 1, by omega⟩
    rw [show y + 1 + m - y = m + 1 by omega, List.replicate_succ]
    simp
  · simp [World.frozen?, h]
theorem headB_set {n M k y : Nat} (hy : y < n) : (((List.range y).map fun i => rowH k (M + i)) ++ List.replicate (n - y) (Value.slice none 0 0)).toArray.setIfInBounds y (rowH k (M + y)) = (((List.range (y + 1)).map fun i => rowH k (M + i)) ++ List.replicate (n - (y + 1)) (Value.slice none 0 0)).toArray := by
  obtain ⟨m, rfl⟩ : ∃ m, n = y + 1 + m := ⟨n - y - 1, by omega⟩
  rw [show y + 1 + m - y = m + 1 by omega, show y + 1 + m - (y + 1) = m by omega, List.replicate_succ, List.range_succ, List.map_append]
  simp

theorem headB_zero (n M k : Nat) : headB n M k 0 = .cells (Array.replicate n (Value.slice none 0 0)) 27 := by simp [headB]
theorem new4 (w : World) (o0 o1 o2 o3 : Obj) : ((((w.alloc o0).alloc o1).alloc o2).alloc o3).drew.heap[w.heap.size]? = some o0 ∧ ((((w.alloc o0).alloc o1).alloc o2).alloc o3).drew.heap[w.heap.size + 1]? = some o1 ∧
    ((((w.alloc o0).alloc o1).alloc o2).alloc o3).drew.heap[w.heap.size + 1 + 1]? = some o2 ∧ ((((w.alloc o0).alloc o1).alloc o2).alloc o3).drew.heap[w.heap.size + 1 + 1 + 1]? = some o3 ∧
    ((((w.alloc o0).alloc o1).alloc o2).alloc o3).drew.heap.size = w.heap.size + 4 ∧ Below w.heap.size w ((((w.alloc o0).alloc o1).alloc o2).alloc o3).drew := by
  have hb : Below w.heap.size w ((((w.alloc o0).alloc o1).alloc o2).alloc o3).drew := (((((Below.refl _ _).alloc (Nat.le_refl _) _).alloc (by simp) _).alloc (by simp; omega) _).alloc (by simp; omega) _).drew
  have s1 : (w.alloc o0).heap.size = w.heap.size + 1 := by simp
  have s2 : ((w.alloc o0).alloc o1).heap.size = w.heap.size + 1 + 1 := by simp
  have s3 : (((w.alloc o0).alloc o1).alloc o2).heap.size = w.heap.size + 1 + 1 + 1 := by simp
  have a0 := heap_alloc_new w o0
  have a1 := heap_alloc_new (w.alloc o0) o1
  have a2 := heap_alloc_new ((w.alloc o0).alloc o1) o2
  have a3 := heap_alloc_new (((w.alloc o0).alloc o1).alloc o2) o3
  have b1 : ∀ (v : World) (o : Obj), Below v.heap.size v (v.alloc o) := fun v o => (Below.refl _ _).alloc (Nat.le_refl _) o
  have c0 := kept (b1 _ o3) (kept (b1 _ o2) (kept (b1 _ o1) a0 (by omega)) (by omega)) (by omega)
  have c1 := kept (b1 _ o3) (kept (b1 _ o2) a1 (by omega)) (by omega)
  have c2 := kept (b1 _ o3) a2 (by omega)
  rw [s1] at c1
  rw [s2] at c2
  rw [s3] at a3
  exact ⟨c0, c1, c2, a3, by simp, hb⟩
def stepW (wr : World) (g y k : Nat) : World := ((wr.setCell ⟨g, y, none⟩ (.slice (some ⟨wr.heap.size, 0, none⟩) k k)).alloc (.cells (Array.replicate k (Value.int .u8 0)) 28)).drew
theorem stepW_size (wr : World) (g y k : Nat) : (stepW wr g y k).heap.size = wr.heap.size + 1 := by simp [stepW]
theorem stepW_old {wr : World} {g y k j : Nat} (hj : j < wr.heap.size) : (stepW wr g y k).heap[j]? = (wr.setCell ⟨g, y, none⟩ (.slice (some ⟨wr.heap.size, 0, none⟩) k k)).heap[j]? := by
  unfold stepW
  exact ((Below.refl _ _).alloc (Nat.le_refl _) _ : Below (wr.setCell ⟨g, y, none⟩ (.slice (some ⟨wr.heap.size, 0, none⟩) k k)).heap.size _ _).block j (by simpa using hj)
theorem stepW_far {wr : World} {g y k j : Nat} (hj : j < wr.heap.size) (hne : j ≠ g) : (stepW wr g y k).heap[j]? = wr.heap[j]? := (stepW_old hj).trans (set_far hne)
theorem stepW_new (wr : World) (g y k : Nat) : (stepW wr g y k).heap[wr.heap.size]? = some (zeroB k) := by
  have := heap_alloc_new (wr.setCell ⟨g, y, none⟩ (.slice (some ⟨wr.heap.size, 0, none⟩) k k)) (.cells (Array.replicate k (Value.int .u8 0)) 28)
  rw [World.size_setCell] at this
  unfold stepW zeroB
  rw [List.toArray_replicate]
  exact this
theorem Laid.step {wr : World} {g n M k y : Nat} (h : Laid wr g n M k y) (hy : y < n) (hs : wr.heap.size = M + y) (hg : g < M) : Laid (stepW wr g y k) g n M k (y + 1) := by
  refine ⟨?_, fun i hi => ?_⟩
  · rw [stepW_old (by omega)]
    have := set_here (i := y) (v := .slice (some ⟨wr.heap.size, 0, none⟩) k k) h.hd
    rw [this]
    have e := headB_set (M := M) (k := k) hy
    unfold rowH at e
    unfold headB rowH
    rw [hs, e]
  · by_cases e : i = y
    · subst e
      rw [← hs]
      exact stepW_new _ _ _ _
    · rw [stepW_far (by omega) (by omega)]
      exact h.row i (by omega)
theorem Laid.far {wr wx : World} {g n M k y : Nat} (h : Laid wr g n M k y) (hg : wx.heap[g]? = wr.heap[g]?) (hr : ∀ i, i < y → wx.heap[M + i]? = wr.heap[M + i]?) : Laid wx g n M k y := ⟨hg.trans h.hd, fun i hi => (hr i hi).trans (h.row i hi)⟩
theorem stepW_below {w wr : World} {g y k : Nat} (h : Below w.heap.size w wr) (hg : w.heap.size ≤ g) : Below w.heap.size w (stepW wr g y k) := ((h.setCell hg _).alloc (by simpa using h.size) _).drew
/-- What blank returns: lists in the blocks gR and gU, rows in the blocks M, M + 1, .. -/
def BlankRet (W1 H1 : Nat) (w : World) (e : Ending) (w' : World) : Prop :=
  ∃ gR gU M, gR ≠ gU ∧ w.heap.size ≤ gR ∧ gR < M ∧ w.heap.size ≤ gU ∧ gU < M ∧ e = .returned (.agg #[.int .i64 (W1 + 1 : Nat), .int .i64 (H1 + 1 : Nat), .slice (some ⟨gR, 0, none⟩) (H1 + 1) (H1 + 1), .slice (some ⟨gU, 0, none⟩) H1 H1]) ∧
    Laid w' gR (H1 + 1) M W1 (H1 + 1) ∧ Laid w' gU H1 (M + (H1 + 1)) (W1 + 1) H1 ∧ w'.heap.size = M + (H1 + 1) + H1 ∧ Below w.heap.size w w'

set_option maxHeartbeats 4000000 in
set_option maxRecDepth 100000 in
theorem blank_any (W1 H1 : Nat) (w : World) (hW : W1 ≤ 20) (hH : H1 ≤ 20) :
    Calls Tryz.prog 22 #[.int .i64 (W1 + 1 : Nat), .int .i64 (H1 + 1 : Nat)] w (BlankRet W1 H1 w) := by
  obtain ⟨W, hWe⟩ : ∃ W, W = W1 + 1 := ⟨_, rfl⟩
  obtain ⟨H, hHe⟩ : ∃ H, H = H1 + 1 := ⟨_, rfl⟩
  rw [← hWe, ← hHe]
  have HWE := Lib.hid hWe
  have HHE := Lib.hid hHe
  have m1 := make_rows H (by omega)
  have m2 := make_rows H1 (by omega)
  have m3 := make_kinds W1 (by omega)
  have m4 := make_kinds W (by omega)
  have e1 : IntKind.i64.wrap ((H : Int) - 1) = (H1 : Int) := by rw [IntWalk.i64_in _ (by omega)]; omega
  have e2 : IntKind.i64.wrap ((W : Int) - 1) = (W1 : Int) := by rw [IntWalk.i64_in _ (by omega)]; omega
  simp only [List.toArray_replicate] at m1 m2 m3 m4
  have hHb : H ≤ 21 := by omega
  clear hWe hHe
  go_enter Tryz.func22, Tryz.ntmps22
  go_upto_region 1 with fail
  obtain ⟨N, hN⟩ : ∃ N, N = w.heap.size := ⟨_, rfl⟩
  go_cut [5] from 5 to 15 (fun s5 wx => ∃ g5 gR gU, s5 = .pointer (some ⟨g5, 0, none⟩) ∧ N < g5 ∧ N < gR ∧ N < gU ∧ g5 ≠ gR ∧ g5 ≠ gU ∧ gR ≠ gU ∧ g5 < N + 4 ∧ gR < N + 4 ∧ gU < N + 4 ∧ wx.heap.size = N + 4 ∧ wx.heap[g5]? = some (.cells #[.int .i64 W, .int .i64 H, .slice (some ⟨gR, 0, none⟩) H H, .slice (some ⟨gU, 0, none⟩) H1 H1] 24 (0, 0)) ∧ wx.heap[gR]? = some (headB H (N + 4) W1 0) ∧ wx.heap[gU]? = some (headB H1 (N + 4 + H) W 0) ∧ (∃ o, wx.heap[N]? = some (.cells o 24 (0, 0)) ∧ o.size = 4) ∧ Below w.heap.size w wx)
  case first =>
    go_region
    all_goals
      go_wp2_with fail
      go_meet
      subst hN
      first
      | exact ⟨w.heap.size + 1, w.heap.size + 1 + 1, w.heap.size + 1 + 1 + 1, rfl, by omega, by omega, by omega, by omega, by omega, by omega, by omega, by omega, by omega, (new4 w _ _ _ _).2.2.2.2.1, (new4 w _ _ _ _).2.1, by rw [headB_zero]; exact (new4 w _ _ _ _).2.2.1, by rw [headB_zero]; exact (new4 w _ _ _ _).2.2.2.1, ⟨_, (new4 w _ _ _ _).1, rfl⟩, (new4 w _ _ _ _).2.2.2.2.2⟩
      | exact ⟨w.heap.size + 1, w.heap.size + 1 + 1 + 1, w.heap.size + 1 + 1, rfl, by omega, by omega, by omega, by omega, by omega, by omega, by omega, by omega, by omega, (new4 w _ _ _ _).2.2.2.2.1, (new4 w _ _ _ _).2.1, by rw [headB_zero]; exact (new4 w _ _ _ _).2.2.2.1, by rw [headB_zero]; exact (new4 w _ _ _ _).2.2.1, ⟨_, (new4 w _ _ _ _).1, rfl⟩, (new4 w _ _ _ _).2.2.2.2.2⟩
      | exact ⟨w.heap.size + 1 + 1, w.heap.size + 1, w.heap.size + 1 + 1 + 1, rfl, by omega, by omega, by omega, by omega, by omega, by omega, by omega, by omega, by omega, (new4 w _ _ _ _).2.2.2.2.1, (new4 w _ _ _ _).2.2.1, by rw [headB_zero]; exact (new4 w _ _ _ _).2.1, by rw [headB_zero]; exact (new4 w _ _ _ _).2.2.2.1, ⟨_, (new4 w _ _ _ _).1, rfl⟩, (new4 w _ _ _ _).2.2.2.2.2⟩
      | exact ⟨w.heap.size + 1 + 1, w.heap.size + 1 + 1 + 1, w.heap.size + 1, rfl, by omega, by omega, by omega, by omega, by omega, by omega, by omega, by omega, by omega, (new4 w _ _ _ _).2.2.2.2.1, (new4 w _ _ _ _).2.2.1, by rw [headB_zero]; exact (new4 w _ _ _ _).2.2.2.1, by rw [headB_zero]; exact (new4 w _ _ _ _).2.1, ⟨_, (new4 w _ _ _ _).1, rfl⟩, (new4 w _ _ _ _).2.2.2.2.2⟩
      | exact ⟨w.heap.size + 1 + 1 + 1, w.heap.size + 1, w.heap.size + 1 + 1, rfl, by omega, by omega, by omega, by omega, by omega, by omega, by omega, by omega, by omega, (new4 w _ _ _ _).2.2.2.2.1, (new4 w _ _ _ _).2.2.2.1, by rw [headB_zero]; exact (new4 w _ _ _ _).2.1, by rw [headB_zero]; exact (new4 w _ _ _ _).2.2.1, ⟨_, (new4 w _ _ _ _).1, rfl⟩, (new4 w _ _ _ _).2.2.2.2.2⟩
      | exact ⟨w.heap.size + 1 + 1 + 1, w.heap.size + 1 + 1, w.heap.size + 1, rfl, by omega, by omega, by omega, by omega, by omega, by omega, by omega, by omega, by omega, (new4 w _ _ _ _).2.2.2.2.1, (new4 w _ _ _ _).2.2.2.1, by rw [headB_zero]; exact (new4 w _ _ _ _).2.2.1, by rw [headB_zero]; exact (new4 w _ _ _ _).2.1, ⟨_, (new4 w _ _ _ _).1, rfl⟩, (new4 w _ _ _ _).2.2.2.2.2⟩
  case rest =>
    obtain ⟨g5, gR, gU, rfl, l5, lR, lU, n5R, n5U, nRU, k5, kR, kU, hsz, h5, hR, hU, ⟨o4, h4, ho4⟩, hbV⟩ := hcut
    obtain ⟨M, hM⟩ : ∃ M, M = N + 4 := ⟨_, rfl⟩
    rw [← hM] at hR hU k5 kR kU hsz
    have HM4 := Lib.hid hM
    have HN := Lib.hid hN
    have H4 := Lib.hid h4
    have H5 := Lib.hid h5
    have HR := Lib.hid hR
    have HU := Lib.hid hU
    have NRU := Lib.hid nRU
    have N5R := Lib.hid n5R
    have N5U := Lib.hid n5U
    clear hM hN h4 hR hU nRU n5R n5U
    obtain ⟨⟨x0, x1, x2, x3⟩, _⟩ := blk4 h5
    clear h5
    go_wp2_with fail
    go_loopw [6, 19] (fun _ s19 wr => ∃ y : Nat, y ≤ H ∧ s19 = .int .i64 y ∧ wr.heap.size = M + y ∧ Hid (wr.heap[N]? = some (.cells o4 24 (0, 0))) ∧ Hid (wr.heap[g5]? = some (.cells #[.int .i64 W, .int .i64 H, .slice (some ⟨gR, 0, none⟩) H H, .slice (some ⟨gU, 0, none⟩) H1 H1] 24 (0, 0))) ∧ Hid (wr.heap[gU]? = some (headB H1 (M + H) W 0)) ∧ Hid (Laid wr gR H M W1 y) ∧ Below w.heap.size w wr) (fun _ s19 _ => H - (intOf s19).toNat)
    case atStart => exact ⟨0, by omega, rfl, hsz, H4, H5, HU, Lib.hid ⟨HR.out, fun i hi => by omega⟩, hbV⟩
    case round =>
      clear x0 x1 x2 x3
      obtain ⟨y, hy, rfl, hszr, G4, G5, GU, GL, hbr⟩ := hrel
      obtain ⟨⟨x0, x1, x2, x3⟩, _⟩ := blk4 G5.out
      by_cases hlt : y < H
      · have q1 : (y : Int) < (H : Int) := by omega
        obtain ⟨c1, c2⟩ := headB_cell GL.out.hd hlt
        have hg1 : gR < wr.heap.size := by omega
        have hg2 : g5 < wr.heap.size := by omega
        have HSZ := Lib.hid hszr
        clear hszr
        go_wp2_with fail
        go_region
        change Exit.inBlock 1 _ _ _ (stepW wr gR y W1)
        have T4 := Lib.hid ((stepW_far (g := gR) (y := y) (k := W1) (by have := HSZ.out; omega) (by omega)).trans G4.out)
        have T5 := Lib.hid ((stepW_far (g := gR) (y := y) (k := W1) hg2 N5R.out).trans G5.out)
        have TU := Lib.hid ((stepW_far (g := gR) (y := y) (k := W1) (by have := HSZ.out; omega) (Ne.symm NRU.out)).trans GU.out)
        have TL := Lib.hid (GL.out.step hlt HSZ.out kR)
        have TB : Below w.heap.size w (stepW wr gR y W1) := stepW_below hbr (by have := HN.out; omega)
        have TS : (stepW wr gR y W1).heap.size = M + (y + 1) := by rw [stepW_size, HSZ.out]; omega
        obtain ⟨wt, hwt⟩ : ∃ wt, wt = stepW wr gR y W1 := ⟨_, rfl⟩
        rw [← hwt] at T4 T5 TU TL TB TS ⊢
        clear hwt G4 G5 GU GL hbr x0 x1 x2 x3 c1 c2
        go_wp2_with fail
        go_roundw
        case rel => exact ⟨y + 1, by omega, by go_num, TS, T4, T5, TU, TL, TB⟩
        case measure => simp [intOf]; omega
      · have q1 : ¬ (y : Int) < (H : Int) := by omega
        obtain rfl : H = y := by omega
        have HSZ := Lib.hid hszr
        clear hszr
        go_wp2_with fail
        obtain ⟨wo, rfl⟩ : ∃ wo : World, wo = wr := ⟨_, rfl⟩
        go_loopw [7, 33] (fun _ s33 wr => ∃ y : Nat, y ≤ H1 ∧ s33 = .int .i64 y ∧ wr.heap.size = M + H + y ∧ Hid (wr.heap[N]? = some (.cells o4 24 (0, 0))) ∧ Hid (wr.heap[g5]? = some (.cells #[.int .i64 W, .int .i64 H, .slice (some ⟨gR, 0, none⟩) H H, .slice (some ⟨gU, 0, none⟩) H1 H1] 24 (0, 0))) ∧ Hid (Laid wr gR H M W1 H) ∧ Hid (Laid wr gU H1 (M + H) W y) ∧ Below w.heap.size w wr) (fun _ s33 _ => H1 - (intOf s33).toNat)
        case atStart => exact ⟨0, by omega, rfl, HSZ.out, G4, G5, GL, Lib.hid ⟨GU.out, fun i hi => by omega⟩, hbr⟩
        case round =>
          clear x0 x1 x2 x3
          obtain ⟨y, hy, rfl, hszr, G4, G5, GL, GU, hbr⟩ := hrel
          obtain ⟨⟨x0, x1, x2, x3⟩, _⟩ := blk4 G5.out
          by_cases hlt : y < H1
          · have q1 : (y : Int) < (H1 : Int) := by omega
            obtain ⟨c1, c2⟩ := headB_cell GU.out.hd hlt
            have hg1 : gU < wr.heap.size := by omega
            have hg2 : g5 < wr.heap.size := by omega
            have HSZ := Lib.hid hszr
            clear hszr
            go_wp2_with fail
            go_region
            change Exit.inBlock 3 _ _ _ (stepW wr gU y W)
            have T4 := Lib.hid ((stepW_far (g := gU) (y := y) (k := W) (by have := HSZ.out; omega) (by omega)).trans G4.out)
            have T5 := Lib.hid ((stepW_far (g := gU) (y := y) (k := W) hg2 N5U.out).trans G5.out)
            have TL := Lib.hid (GL.out.far (stepW_far (g := gU) (y := y) (k := W) (by have := HSZ.out; omega) NRU.out) (fun i hi => stepW_far (g := gU) (y := y) (k := W) (by have := HSZ.out; omega) (by omega)))
            have TU := Lib.hid (GU.out.step hlt HSZ.out (by omega))
            have TB : Below w.heap.size w (stepW wr gU y W) := stepW_below hbr (by have := HN.out; omega)
            have TS : (stepW wr gU y W).heap.size = M + H + (y + 1) := by rw [stepW_size, HSZ.out]; omega
            obtain ⟨wt, hwt⟩ : ∃ wt, wt = stepW wr gU y W := ⟨_, rfl⟩
            rw [← hwt] at T4 T5 TU TL TB TS ⊢
            clear hwt G4 G5 GU GL hbr x0 x1 x2 x3 c1 c2
            go_wp2_with fail
            go_roundw
            case rel => exact ⟨y + 1, by omega, by go_num, TS, T4, T5, TL, TU, TB⟩
            case measure => simp [intOf]; omega
          · have q1 : ¬ (y : Int) < (H1 : Int) := by omega
            obtain rfl : H1 = y := by omega
            obtain rfl := HN.out
            have HSZ := Lib.hid hszr
            clear hszr
            obtain ⟨r0, r1, r2, r3, rfl⟩ : ∃ r0 r1 r2 r3, o4 = #[r0, r1, r2, r3] := by
              obtain ⟨l⟩ := o4
              match l, ho4 with
              | [a, b, c, d], _ => exact ⟨a, b, c, d, rfl⟩
            obtain ⟨⟨y0, y1, y2, y3⟩, ⟨f0, f1, f2, f3⟩⟩ := blk4 G4.out
            go_wp2_with fail
            refine bodyPost_ret (v := .agg #[.int .i64 W, .int .i64 H, .slice (some ⟨gR, 0, none⟩) H H, .slice (some ⟨gU, 0, none⟩) H1 H1]) (by simp [results, Tryz.results22, go_sem, y0, y1, y2, y3]) rfl ?_
            have hfar : ∀ j, j ≠ w.heap.size → ((((wr.setCell ⟨w.heap.size, 0, none⟩ (.int .i64 W)).setCell ⟨w.heap.size, 1, none⟩ (.int .i64 H)).setCell ⟨w.heap.size, 2, none⟩ (.slice (some ⟨gR, 0, none⟩) H H)).setCell ⟨w.heap.size, 3, none⟩ (.slice (some ⟨gU, 0, none⟩) H1 H1)).heap[j]? = wr.heap[j]? := fun j hj => by rw [set_far hj, set_far hj, set_far hj, set_far hj]
            obtain rfl := HWE.out
            obtain rfl := HHE.out
            refine ⟨gR, gU, M, NRU.out, by omega, kR, by omega, kU, rfl, GL.out.far (hfar _ (by omega)) (fun i hi => hfar _ (by omega)), GU.out.far (hfar _ (by omega)) (fun i hi => hfar _ (by omega)), by simp [HSZ.out], ?_⟩
            exact (((hbr.setCell (Nat.le_refl _) _).setCell (Nat.le_refl _) _).setCell (Nat.le_refl _) _).setCell (Nat.le_refl _) _
end Go.Proofs.YtcgbdkjelbgcfaaGreatDoor
