/- Contracts of cells.Neighbour and of package sheets up to Name. -/
import Derived.Test.YtjdmkgnlakonbaaGreatDoorCel
namespace Go.Proofs.YtjdmkgnlakonbaaGreatDoor
open Go.RowKit

/-- The neighbours of a quarter, as the table has them. -/
def nxt : Nat → Nat → Int × Int × Int
  | 0, 0 => (0, -1, 2) | 0, 1 => (0, 0, 1) | 0, _ => (0, 0, 3)
  | 1, 0 => (1, 0, 3) | 1, 1 => (0, 0, 0) | 1, _ => (0, 0, 2)
  | 2, 0 => (0, 1, 0) | 2, 1 => (0, 0, 3) | 2, _ => (0, 0, 1)
  | _, 0 => (-1, 0, 1) | _, 1 => (0, 0, 2) | _, _ => (0, 0, 0)
theorem nxt_bd (q e : Nat) : -1 ≤ (nxt q e).1 ∧ (nxt q e).1 ≤ 1 ∧ -1 ≤ (nxt q e).2.1 ∧ (nxt q e).2.1 ≤ 1 ∧ 0 ≤ (nxt q e).2.2 ∧ (nxt q e).2.2 ≤ 3 := by
  unfold nxt
  split <;> decide
/-- The table cells.quarters lies as the text lays it. -/
structure Qt (w : World) : Prop where
  lt : 9 < w.heap.size
  at' : ∀ q e, q < 4 → e < 3 → w.cell? ⟨9, q * 17 + 4 + e * 3, none⟩ = some (.int .i64 (nxt q e).1) ∧ w.cell? ⟨9, q * 17 + 4 + e * 3 + 1, none⟩ = some (.int .i64 (nxt q e).2.1) ∧ w.cell? ⟨9, q * 17 + 4 + e * 3 + 2, none⟩ = some (.int .u8 (nxt q e).2.2)
theorem Qt.below {w w' : World} (h : Qt w) (hb : Below w.heap.size w w') : Qt w' :=
  ⟨Nat.lt_of_lt_of_le h.lt hb.size, fun q e hq he => by
    obtain ⟨h1, h2, h3⟩ := h.at' q e hq he
    exact ⟨below_cell hb h1, below_cell hb h2, below_cell hb h3⟩⟩

/-- The neighbour of a cell across an edge: its cell and the error code. -/
def nbr (x y q e : Int) : Int × Int × Int × Int :=
  if okC x y q = false ∨ 2 < e then (0, 0, 0, 1)
  else if okC (x + (nxt q.toNat e.toNat).1) (y + (nxt q.toNat e.toNat).2.1) (nxt q.toNat e.toNat).2.2 then (x + (nxt q.toNat e.toNat).1, y + (nxt q.toNat e.toNat).2.1, (nxt q.toNat e.toNat).2.2, 0)
  else (0, 0, 0, 3)
def cellV (c : Int × Int × Int × Int) : Value := .tuple #[.agg #[.int .i64 c.1, .int .i64 c.2.1, .int .u8 c.2.2.1], .int .i64 c.2.2.2]

set_option maxHeartbeats 2000000 in
theorem neighbour_any (x y q e : Int) (w : World) (hq : 0 ≤ q) (he : 0 ≤ e) (hQ : Qt w) :
    Calls Tryz.prog 193 #[.agg #[.int .i64 x, .int .i64 y, .int .u8 q], .int .u8 e] w (RetBelow (cellV (nbr x y q e)) w) := by
  cases hc : okC x y q
  · have hn : nbr x y q e = (0, 0, 0, 1) := by unfold nbr; rw [if_pos (.inl hc)]
    rw [hn]
    have HC := Lib.hid hc
    clear hc hn
    go_enter Tryz.func193, Tryz.ntmps193
    go_wp2_with fail
    refine (cellCheck_any x y q _).mono ?_
    rintro e' w2 ⟨rfl, hb2⟩
    rw [HC.out, ec_f]
    obtain ⟨n1, n2⟩ := new2 w (.cells #[.int .i64 x, .int .i64 y, .int .u8 q] 90) (.cells #[.int .i64 0, .int .i64 0, .int .u8 0] 90)
    obtain ⟨⟨r0, r1, r2⟩, z0, z1, z2⟩ := blk3 (kept hb2 n2 (by simp))
    have hbw : Below w.heap.size w w2 := (((Below.refl _ _).alloc (Nat.le_refl _) _).alloc (by simp) _).trans (hb2.mono (by simp; omega))
    clear n1 n2
    go_wp2_with fail
    refine bodyPost_ret (v := cellV (0, 0, 0, 1)) (by simp [results, Tryz.results193, go_sem, r0, r1, r2, cellV]) rfl ⟨rfl, ?_⟩
    exact ((hbw.setCell (by simp) _).setCell (by simp) _).setCell (by simp) _
  · by_cases he2 : 2 < e
    · have hn : nbr x y q e = (0, 0, 0, 1) := by unfold nbr; rw [if_pos (.inr he2)]
      rw [hn]
      have HC := Lib.hid hc
      clear hc hn
      go_enter Tryz.func193, Tryz.ntmps193
      go_wp2_with fail
      refine (cellCheck_any x y q _).mono ?_
      rintro e' w2 ⟨rfl, hb2⟩
      rw [HC.out, ec_t]
      obtain ⟨n1, n2⟩ := new2 w (.cells #[.int .i64 x, .int .i64 y, .int .u8 q] 90) (.cells #[.int .i64 0, .int .i64 0, .int .u8 0] 90)
      obtain ⟨⟨r0, r1, r2⟩, z0, z1, z2⟩ := blk3 (kept hb2 n2 (by simp))
      have hbw : Below w.heap.size w w2 := (((Below.refl _ _).alloc (Nat.le_refl _) _).alloc (by simp) _).trans (hb2.mono (by simp; omega))
      clear n1 n2
      go_wp2_with fail
      refine bodyPost_ret (v := cellV (0, 0, 0, 1)) (by simp [results, Tryz.results193, go_sem, r0, r1, r2, cellV]) rfl ⟨rfl, ?_⟩
      exact ((hbw.setCell (by simp) _).setCell (by simp) _).setCell (by simp) _
    · obtain ⟨qn, rfl⟩ := Int.eq_ofNat_of_zero_le hq
      obtain ⟨en, rfl⟩ := Int.eq_ofNat_of_zero_le he
      have hcc := okC_iff.1 hc
      have hqn : qn < 4 := by omega
      have hen : en < 3 := by omega
      have hnb := nxt_bd qn en
      obtain ⟨nx, hnx⟩ : ∃ nx, (nxt qn en).1 = nx := ⟨_, rfl⟩
      obtain ⟨ny, hny⟩ : ∃ ny, (nxt qn en).2.1 = ny := ⟨_, rfl⟩
      obtain ⟨nq, hnq⟩ : ∃ nq, (nxt qn en).2.2 = nq := ⟨_, rfl⟩
      have hn : nbr x y qn en = if okC (x + nx) (y + ny) nq then (x + nx, y + ny, nq, 0) else (0, 0, 0, 3) := by
        unfold nbr
        rw [if_neg (by rw [hc]; simp; omega), Int.toNat_natCast, Int.toNat_natCast, hnx, hny, hnq]
      obtain ⟨R, hR⟩ : ∃ R, nbr x y qn en = R := ⟨_, rfl⟩
      rw [hR]
      have HR := Lib.hid (hR.symm.trans hn)
      rw [hnx, hny, hnq] at hnb
      have HC := Lib.hid hc
      have HNX := Lib.hid hnx
      have HNY := Lib.hid hny
      have HNQ := Lib.hid hnq
      have q1 : (qn : Int) < 4 := by omega
      have q2 : (en : Int) < 3 := by omega
      have q3 : ¬ (2 : Int) < (en : Int) := by omega
      clear hc hn hR hnx hny hnq he2
      go_enter Tryz.func193, Tryz.ntmps193
      go_wp2_with fail
      refine (cellCheck_any x y qn _).mono ?_
      rintro e' w2 ⟨rfl, hb2⟩
      rw [HC.out, ec_t]
      obtain ⟨n1, n2⟩ := new2 w (.cells #[.int .i64 x, .int .i64 y, .int .u8 qn] 90) (.cells #[.int .i64 0, .int .i64 0, .int .u8 0] 90)
      obtain ⟨⟨r0, r1, r2⟩, z0, z1, z2⟩ := blk3 (kept hb2 n2 (by simp))
      obtain ⟨⟨s0, s1, s2⟩, _⟩ := blk3 (kept hb2 n1 (by simp; omega))
      have hbw : Below w.heap.size w w2 := (((Below.refl _ _).alloc (Nat.le_refl _) _).alloc (by simp) _).trans (hb2.mono (by simp; omega))
      obtain ⟨t0, t1, t2⟩ := (hQ.below hbw).at' qn en hqn hen
      rw [HNX.out] at t0
      rw [HNY.out] at t1
      rw [HNQ.out] at t2
      have hsz := hb2.size
      simp only [World.size_alloc] at hsz
      have hgl : 9 < w2.heap.size := (hQ.below hbw).lt
      have hwx : -4097 ≤ nx + x ∧ nx + x ≤ 4097 := by omega
      have hwy : -4097 ≤ ny + y ∧ ny + y ≤ 4097 := by omega
      obtain ⟨cx, hcx⟩ : ∃ cx, cx = x + nx := ⟨_, rfl⟩
      obtain ⟨cy, hcy⟩ : ∃ cy, cy = y + ny := ⟨_, rfl⟩
      have w1 : IntKind.i64.wrap (nx + x) = cx := by rw [IntWalk.i64_in _ (by omega)]; omega
      have w2' : IntKind.i64.wrap (ny + y) = cy := by rw [IntWalk.i64_in _ (by omega)]; omega
      have HCX := Lib.hid hcx
      have HCY := Lib.hid hcy
      have hlt1 : w.heap.size < w2.heap.size := by omega
      have hlt2 : w.heap.size + 1 < w2.heap.size := by omega
      have HN2 := Lib.hid (kept hb2 n2 (by simp))
      clear n1 n2 hcx hcy
      go_wp2_with fail
      go_region
      go_wp2_with fail
      refine (cellCheck_any cx cy nq _).mono ?_
      rintro e' w3 ⟨rfl, hb3'⟩
      have hb3 := undrew hb3'
      have m2 : w3.heap[w.heap.size + 1]? = some (.cells #[.int .i64 0, .int .i64 0, .int .u8 0] 90 (0, 0)) := kept hb3 ((Below.heap_alloc _ _ _ hlt2).trans HN2.out) (by simp; omega)
      have m3 : w3.heap[w2.heap.size]? = some (.cells #[.int .i64 cx, .int .i64 cy, .int .u8 nq] 90 (0, 0)) := kept hb3 (heap_alloc_new w2 _) (by simp)
      have hbw3 : Below w.heap.size w w3 := (hbw.alloc hbw.size _).trans (hb3.mono (by simp; omega))
      have hlt3 : w.heap.size + 1 < w3.heap.size := (Array.getElem?_eq_some_iff.1 m2).1
      obtain ⟨⟨a0, a1, a2⟩, y0, y1, y2⟩ := blk3 m2
      obtain ⟨⟨b0, b1, b2⟩, _⟩ := blk3 m3
      clear r0 r1 r2 z0 z1 z2 s0 s1 s2 t0 t1 t2 m2 m3 hb2 hb3 hb3'
      cases hk : okC cx cy nq
      · have HK := Lib.hid hk
        rw [ec_f]
        clear hk
        go_wp2_with fail
        refine bodyPost_ret (v := cellV (0, 0, 0, 3)) (by simp [results, Tryz.results193, go_sem, a0, a1, a2, cellV]) rfl ⟨?_, ?_⟩
        · rw [HR.out, ← HCX.out, ← HCY.out, HK.out]
          rfl
        · exact ((hbw3.setCell (by simp) _).setCell (by simp) _).setCell (by simp) _
      · have HK := Lib.hid hk
        rw [ec_t]
        clear hk
        go_wp2_with fail
        refine bodyPost_ret (v := cellV (cx, cy, nq, 0)) (by simp [results, Tryz.results193, go_sem, a0, a1, a2, cellV]) rfl ⟨?_, ?_⟩
        · rw [HR.out, ← HCX.out, ← HCY.out, HK.out]
          rfl
        · exact ((hbw3.setCell (by simp) _).setCell (by simp) _).setCell (by simp) _

/-- The cell with an id. -/
def hasI (a b i : Int) : Bool := decide (0 ≤ i) && decide (i < 4 * a * b)
theorem hasI_iff {a b i : Int} : hasI a b i = true ↔ 0 ≤ i ∧ i < 4 * a * b := by unfold hasI; simp
theorem mul_bd {a b : Int} (h : okS a b = true) : 1 ≤ a * b ∧ a * b ≤ 256 ∧ 1 ≤ a ∧ a ≤ 256 ∧ 1 ≤ b ∧ b ≤ 256 := by
  obtain ⟨h1, h2, h3, h4, h5⟩ := okS_iff.1 h
  refine ⟨?_, h5, h1, h3, h2, h4⟩
  have := Int.mul_le_mul h1 h2 (by omega) (by omega)
  omega

set_option maxHeartbeats 1000000 in
theorem has_any (a b i : Int) (w : World) (hs : okS a b = true) :
    Calls Tryz.prog 156 #[.agg #[.int .i64 a, .int .i64 b], .int .i64 i] w (RetBelow (.bool (hasI a b i)) w) := by
  obtain ⟨m1, m2, m3, m4, m5, m6⟩ := mul_bd hs
  obtain ⟨m, hm⟩ : ∃ m, 4 * a * b = m := ⟨_, rfl⟩
  have hmb : 4 ≤ m ∧ m ≤ 1024 := by
    have : 4 * a * b = 4 * (a * b) := Int.mul_assoc _ _ _
    omega
  have HM := Lib.hid hm
  obtain ⟨R, hR⟩ : ∃ R, hasI a b i = R := ⟨_, rfl⟩
  rw [hR]
  have HR := Lib.hid hR
  obtain ⟨hb1, hb2⟩ := hmb
  clear hs hR
  go_enter Tryz.func156, Tryz.ntmps156
  go_wp2_with fail
  all_goals go_ret
  all_goals refine ⟨?_, (Below.refl _ _).alloc (Nat.le_refl _) _⟩
  · rw [← HR.out]
    exact ret_bool (by unfold hasI; rw [decide_eq_true (show 0 ≤ i by omega), HM.out, Bool.true_and])
  · rw [← HR.out]
    exact ret_bool (by unfold hasI; rw [decide_eq_false (show ¬ 0 ≤ i by omega), Bool.false_and])

set_option maxHeartbeats 1000000 in
theorem cell_any (a b i : Int) (w : World) (hs : okS a b = true) (hi : hasI a b i = true) :
    Calls Tryz.prog 157 #[.agg #[.int .i64 a, .int .i64 b], .int .i64 i] w (RetBelow (.agg #[.int .i64 (i / 4 % a), .int .i64 (i / 4 / a), .int .u8 (i % 4)]) w) := by
  obtain ⟨m1, m2, m3, m4, m5, m6⟩ := mul_bd hs
  obtain ⟨i1, i2⟩ := hasI_iff.1 hi
  have i3 : i ≤ 1024 := by have : 4 * a * b = 4 * (a * b) := Int.mul_assoc _ _ _; omega
  have d1 : 0 ≤ i / 4 := by omega
  have d2 : i / 4 ≤ 256 := by omega
  have d3 := Int.emod_nonneg (i / 4) (show a ≠ 0 by omega)
  have d4 := Int.emod_lt_of_pos (i / 4) (show 0 < a by omega)
  have d5 : 0 ≤ i / 4 / a := Int.ediv_nonneg d1 (by omega)
  have d6 : i / 4 / a ≤ 256 := Int.le_trans (Int.ediv_le_self _ d1) d2
  have e1 : (a == 0) = false := by simp; omega
  have e2 : (i / 4).tmod a = i / 4 % a := Int.tmod_eq_emod_of_nonneg d1
  have e3 : (i / 4).tdiv a = i / 4 / a := Int.tdiv_eq_ediv_of_nonneg d1
  have e4 : i.tdiv 4 = i / 4 := Int.tdiv_eq_ediv_of_nonneg i1
  have e5 : i.tmod 4 = i % 4 := Int.tmod_eq_emod_of_nonneg i1
  have e6 : IntKind.i64.wrap (i / 4) = i / 4 := IntWalk.i64_in _ (by omega)
  have e7 : IntKind.i64.wrap (i / 4 % a) = i / 4 % a := IntWalk.i64_in _ (by omega)
  have e8 : IntKind.i64.wrap (i / 4 / a) = i / 4 / a := IntWalk.i64_in _ (by omega)
  have e9 : IntKind.i64.wrap (i % 4) = i % 4 := IntWalk.i64_in _ (by omega)
  have e10 : IntKind.u8.wrap (i % 4) = i % 4 := IntWalk.u8_in _ (by omega)
  clear hs hi i2 d1 d2 d3 d4 d5 d6
  obtain ⟨n1, n2⟩ := new2 w (.cells #[.int .i64 a, .int .i64 b] 37) (.cells #[.int .i64 0, .int .i64 0, .int .u8 0] 90)
  go_enter Tryz.func157, Tryz.ntmps157
  go_wp2_with fail
  go_region
  go_wp2_with fail
  refine bodyPost_ret (v := .agg #[.int .i64 (i / 4 % a), .int .i64 (i / 4 / a), .int .u8 (i % 4)]) (by simp [results, Tryz.results157, go_sem]) rfl ⟨rfl, ?_⟩
  repeat' (first | exact Below.refl _ _ | refine Below.drew ?_ | refine Below.setCell ?_ (by simp) _ | refine Below.alloc ?_ (by simp) _)
end Go.Proofs.YtjdmkgnlakonbaaGreatDoor
