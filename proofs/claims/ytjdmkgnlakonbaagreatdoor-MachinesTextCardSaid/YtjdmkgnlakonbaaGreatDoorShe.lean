/- Contracts of sheets.Cell, Id, Neighbour and Name at valid sheets. -/
import Derived.Test.YtjdmkgnlakonbaaGreatDoorCel2
namespace Go.Proofs.YtjdmkgnlakonbaaGreatDoor
open Go.RowKit

def cellI (a b i : Int) : Int × Int × Int × Int := if hasI a b i then (i / 4 % a, i / 4 / a, i % 4, 0) else (0, 0, 0, 7)

set_option maxHeartbeats 1000000 in
theorem sheetCell_any (a b i : Int) (w : World) (hs : okS a b = true) :
    Calls Tryz.prog 97 #[.agg #[.int .i64 a, .int .i64 b], .int .i64 i] w (RetBelow (cellV (cellI a b i)) w) := by
  obtain ⟨R, hR⟩ : ∃ R, cellI a b i = R := ⟨_, rfl⟩
  rw [hR]
  have HR := Lib.hid hR
  have HS := Lib.hid hs
  obtain ⟨n1, n2⟩ := new2 w (.cells #[.int .i64 a, .int .i64 b] 37) (.cells #[.int .i64 0, .int .i64 0, .int .u8 0] 90)
  have hb1 : Below w.heap.size w ((w.alloc (.cells #[.int .i64 a, .int .i64 b] 37)).alloc (.cells #[.int .i64 0, .int .i64 0, .int .u8 0] 90)) := ((Below.refl _ _).alloc (Nat.le_refl _) _).alloc (by simp) _
  have hz1 : w.heap.size + 1 < ((w.alloc (.cells #[.int .i64 a, .int .i64 b] 37)).alloc (.cells #[.int .i64 0, .int .i64 0, .int .u8 0] 90)).heap.size := by simp
  clear hR hs
  go_enter Tryz.func97, Tryz.ntmps97
  go_upto_region 1 with fail
  obtain ⟨W, hW⟩ : ∃ W, W = (w.alloc (.cells #[.int .i64 a, .int .i64 b] 37)).alloc (.cells #[.int .i64 0, .int .i64 0, .int .u8 0] 90) := ⟨_, rfl⟩
  rw [← hW] at n1 n2 hb1 hz1 ⊢
  obtain ⟨N, hN⟩ : ∃ N, N = w.heap.size := ⟨_, rfl⟩
  rw [← hN] at n1 n2 hz1 ⊢
  have HNN := Lib.hid hN
  have N1 := Lib.hid n1
  have N2 := Lib.hid n2
  obtain ⟨⟨x0, x1⟩, _⟩ := blk2 n1
  clear hW n1 n2 hN
  go_wp2_with fail
  refine (sheetCheck_any a b _).mono ?_
  rintro e w2 ⟨rfl, hb2⟩
  rw [HS.out, ec_t]
  have hb2' : Below w.heap.size w w2 := hb1.trans (hb2.mono hb1.size)
  have M1 := Lib.hid (kept hb2 N1.out (by omega))
  have M2 := Lib.hid (kept hb2 N2.out hz1)
  obtain ⟨⟨y0, y1⟩, _⟩ := blk2 M1.out
  have hz2 : N + 1 < w2.heap.size := Nat.lt_of_lt_of_le hz1 hb2.size
  clear x0 x1 hb2 N1 N2
  go_wp2_with fail
  refine (has_any a b i _ HS.out).mono ?_
  rintro e w3 ⟨rfl, hb3⟩
  have hb3' : Below w.heap.size w w3 := hb2'.trans (hb3.mono hb2'.size)
  have P1 := Lib.hid (kept hb3 M1.out (by omega))
  have P2 := Lib.hid (kept hb3 M2.out hz2)
  obtain ⟨⟨v0, v1⟩, _⟩ := blk2 P1.out
  obtain ⟨⟨r0, r1, r2⟩, z0, z1, z2⟩ := blk3 P2.out
  have hz3 : N + 1 < w3.heap.size := Nat.lt_of_lt_of_le hz2 hb3.size
  clear y0 y1 hb3 M1 M2
  cases hi : hasI a b i
  · have HI := Lib.hid hi
    clear hi
    go_wp2_with fail
    refine bodyPost_ret (v := cellV (0, 0, 0, 7)) (by simp [results, Tryz.results97, go_sem, r0, r1, r2, cellV]) rfl ⟨?_, ?_⟩
    · rw [← HR.out]
      unfold cellI
      rw [HI.out]
      rfl
    · have h9 := HNN.out
      exact ((hb3'.setCell (by simp; omega) _).setCell (by simp; omega) _).setCell (by simp; omega) _
  · have HI := Lib.hid hi
    clear hi
    go_wp2_with fail
    refine (cell_any a b i _ HS.out HI.out).mono ?_
    rintro e w4 ⟨rfl, hb4⟩
    have hb4' : Below w.heap.size w w4 := hb3'.trans (hb4.mono hb3'.size)
    obtain ⟨⟨s0, s1, s2⟩, y0, y1, y2⟩ := blk3 (kept hb4 P2.out hz3)
    have hz4 : N + 1 < w4.heap.size := Nat.lt_of_lt_of_le hz3 hb4.size
    clear v0 v1 r0 r1 r2 z0 z1 z2 hb4
    go_wp2_with fail
    refine bodyPost_ret (v := cellV (i / 4 % a, i / 4 / a, i % 4, 0)) (by simp [results, Tryz.results97, go_sem, s0, s1, s2, cellV]) rfl ⟨?_, ?_⟩
    · rw [← HR.out]
      unfold cellI
      rw [HI.out]
      rfl
    · have h9 := HNN.out
      exact ((hb4'.setCell (by simp; omega) _).setCell (by simp; omega) _).setCell (by simp; omega) _

/-- The id of a cell. -/
def inS (a b x y q : Int) : Bool := okC x y q && decide (0 ≤ x) && decide (x < a) && decide (0 ≤ y) && decide (y < b)
theorem inS_iff {a b x y q : Int} : inS a b x y q = true ↔ okC x y q = true ∧ 0 ≤ x ∧ x < a ∧ 0 ≤ y ∧ y < b := by
  unfold inS
  simp only [Bool.and_eq_true, decide_eq_true_eq, and_assoc]
theorem inS_no {a b x y q : Int} (h : ¬ (okC x y q = true ∧ 0 ≤ x ∧ x < a ∧ 0 ≤ y ∧ y < b)) : inS a b x y q = false := by
  rw [← Bool.not_eq_true, inS_iff]; exact h
def idI (a b x y q : Int) : Int × Int := if inS a b x y q then (4 * (y * a + x) + q, 0) else (0, 7)
def intV (r : Int × Int) : Value := .tuple #[.int .i64 r.1, .int .i64 r.2]
theorem in_bd {a b x y : Int} (hs : okS a b = true) (hx : 0 ≤ x ∧ x < a) (hy : 0 ≤ y ∧ y < b) : 0 ≤ y * a ∧ y * a + x < a * b ∧ a * b ≤ 256 := by
  obtain ⟨m1, m2, m3, m4, m5, m6⟩ := mul_bd hs
  refine ⟨Int.mul_nonneg hy.1 (by omega), ?_, m2⟩
  have h1 : (y + 1) * a ≤ b * a := Int.mul_le_mul_of_nonneg_right (by omega) (by omega)
  rw [Int.add_mul, Int.one_mul, Int.mul_comm b a] at h1
  omega

set_option maxHeartbeats 1000000 in
theorem id_any (a b x y q : Int) (w : World) (hs : okS a b = true) (hq : 0 ≤ q ∧ q ≤ 255) :
    Calls Tryz.prog 209 #[.agg #[.int .i64 a, .int .i64 b], .agg #[.int .i64 x, .int .i64 y, .int .u8 q]] w (RetBelow (intV (idI a b x y q)) w) := by
  obtain ⟨R, hR⟩ : ∃ R, idI a b x y q = R := ⟨_, rfl⟩
  rw [hR]
  have HR := Lib.hid hR
  have HS := Lib.hid hs
  have hbd := fun hx hy => in_bd (a := a) (b := b) (x := x) (y := y) hs hx hy
  have HBD := Lib.hid hbd
  obtain ⟨n1, n2⟩ := new2 w (.cells #[.int .i64 a, .int .i64 b] 37) (.cells #[.int .i64 x, .int .i64 y, .int .u8 q] 90)
  have hb1 : Below w.heap.size w ((w.alloc (.cells #[.int .i64 a, .int .i64 b] 37)).alloc (.cells #[.int .i64 x, .int .i64 y, .int .u8 q] 90)) := ((Below.refl _ _).alloc (Nat.le_refl _) _).alloc (by simp) _
  have hz1 : w.heap.size + 1 < ((w.alloc (.cells #[.int .i64 a, .int .i64 b] 37)).alloc (.cells #[.int .i64 x, .int .i64 y, .int .u8 q] 90)).heap.size := by simp
  clear hR hs hbd
  go_enter Tryz.func209, Tryz.ntmps209
  go_upto_region 1 with fail
  obtain ⟨W, hW⟩ : ∃ W, W = (w.alloc (.cells #[.int .i64 a, .int .i64 b] 37)).alloc (.cells #[.int .i64 x, .int .i64 y, .int .u8 q] 90) := ⟨_, rfl⟩
  rw [← hW] at n1 n2 hb1 hz1 ⊢
  obtain ⟨N, hN⟩ : ∃ N, N = w.heap.size := ⟨_, rfl⟩
  rw [← hN] at n1 n2 hz1 ⊢
  have N1 := Lib.hid n1
  have N2 := Lib.hid n2
  obtain ⟨⟨x0, x1⟩, _⟩ := blk2 n1
  clear hW n1 n2 hN
  go_wp2_with fail
  refine (sheetCheck_any a b _).mono ?_
  rintro e w2 ⟨rfl, hb2⟩
  rw [HS.out, ec_t]
  have hb2' : Below w.heap.size w w2 := hb1.trans (hb2.mono hb1.size)
  have M1 := Lib.hid (kept hb2 N1.out (by omega))
  have M2 := Lib.hid (kept hb2 N2.out hz1)
  obtain ⟨⟨y0, y1, y2⟩, _⟩ := blk3 M2.out
  have hz2 : N + 1 < w2.heap.size := Nat.lt_of_lt_of_le hz1 hb2.size
  clear x0 x1 hb2 N1 N2
  go_wp2_with fail
  refine (cellCheck_any x y q _).mono ?_
  rintro e w3 ⟨rfl, hb3⟩
  have hb3' : Below w.heap.size w w3 := hb2'.trans (hb3.mono hb2'.size)
  obtain ⟨⟨v0, v1⟩, _⟩ := blk2 (kept hb3 M1.out (by omega))
  obtain ⟨⟨r0, r1, r2⟩, _⟩ := blk3 (kept hb3 M2.out hz2)
  clear y0 y1 y2 hb3 M1 M2
  cases hc : okC x y q
  · have HC := Lib.hid hc
    rw [ec_f]
    clear hc
    go_wp2_with fail
    go_ret2
    refine ⟨?_, hb3'⟩
    rw [← HR.out]
    unfold idI
    rw [inS_no (fun h => by rw [HC.out] at h; cases h.1)]
    rfl
  · have HC := Lib.hid hc
    rw [ec_t]
    clear hc
    by_cases hin : (0 ≤ x ∧ x < a) ∧ (0 ≤ y ∧ y < b)
    · obtain ⟨⟨h1, h2⟩, h3, h4⟩ := hin
      obtain ⟨k1, k2, k3⟩ := HBD.out ⟨h1, h2⟩ ⟨h3, h4⟩
      have k4 : IntKind.i64.wrap q = q := IntWalk.i64_in _ (by omega)
      have hma := okS_iff.1 HS.out
      obtain ⟨p, hp⟩ : ∃ p, y * a = p := ⟨_, rfl⟩
      rw [hp] at k1 k2
      have HP := Lib.hid hp
      clear hma
      go_wp2_with fail
      go_ret2
      refine ⟨?_, hb3'⟩
      rw [← HR.out]
      unfold idI
      rw [inS_iff.2 ⟨HC.out, h1, h2, h3, h4⟩, ← HP.out]
      rfl
    · have hno := inS_no (a := a) (b := b) (x := x) (y := y) (q := q) (fun h => hin ⟨⟨h.2.1, h.2.2.1⟩, h.2.2.2.1, h.2.2.2.2⟩)
      have hR' : R = (0, 7) := by rw [← HR.out]; unfold idI; rw [hno]; rfl
      have HR' := Lib.hid hR'
      have HIN := Lib.hid hin
      clear hno hR' hin
      go_wp2_with fail
      all_goals go_ret2
      all_goals first | exact ⟨by rw [HR'.out]; rfl, hb3'⟩ | exact absurd (by omega) HIN.out
end Go.Proofs.YtjdmkgnlakonbaaGreatDoor
