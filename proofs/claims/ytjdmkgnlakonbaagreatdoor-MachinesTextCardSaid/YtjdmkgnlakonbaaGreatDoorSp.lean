/- What the scalar functions of lines, moves and cells compute, in plain Lean. No program is named; no condition. -/
import Derived.Test.YtjdmkgnlakonbaaGreatDoorCel
namespace Go.Proofs.YtjdmkgnlakonbaaGreatDoor

/-- A line is valid. -/
def okL (k c : Int) : Bool := decide (1 ≤ k) && decide (k ≤ 4) && decide (-4096 ≤ c) && decide (c ≤ 4096)
theorem okL_iff {k c : Int} : okL k c = true ↔ 1 ≤ k ∧ k ≤ 4 ∧ -4096 ≤ c ∧ c ≤ 4096 := by unfold okL; simp; omega
theorem okL_no {k c : Int} (h : ¬ (1 ≤ k ∧ k ≤ 4 ∧ -4096 ≤ c ∧ c ≤ 4096)) : okL k c = false := by rw [← Bool.not_eq_true, okL_iff]; exact h
/-- A point is valid. -/
def okP (x y : Int) : Bool := decide (-65536 ≤ x) && decide (x ≤ 65536) && decide (-65536 ≤ y) && decide (y ≤ 65536)
theorem okP_iff {x y : Int} : okP x y = true ↔ -65536 ≤ x ∧ x ≤ 65536 ∧ -65536 ≤ y ∧ y ≤ 65536 := by unfold okP; simp; omega
theorem okP_no {x y : Int} (h : ¬ (-65536 ≤ x ∧ x ≤ 65536 ∧ -65536 ≤ y ∧ y ≤ 65536)) : okP x y = false := by rw [← Bool.not_eq_true, okP_iff]; exact h
/-- 2C on a line of a kind through a point. -/
def alongF (k x y : Int) : Int := if k = 1 then x else if k = 2 then y else if k = 3 then x + y else y - x
def sideP (k c x y : Int) : Int := if alongF k x y < 2 * c then -1 else if 2 * c < alongF k x y then 1 else 0

/-- A number of places is not too great. -/
def nearB (n : Int) : Bool := decide (-16384 ≤ n) && decide (n ≤ 16384)
/-- A move is valid. -/
def okM (t x y : Int) : Bool := decide (t < 8) && nearB x && nearB y && decide ((x + y) % 2 = 0)
theorem okM_iff {t x y : Int} : okM t x y = true ↔ t < 8 ∧ (-16384 ≤ x ∧ x ≤ 16384) ∧ (-16384 ≤ y ∧ y ≤ 16384) ∧ (x + y) % 2 = 0 := by
  unfold okM nearB; simp only [Bool.and_eq_true, decide_eq_true_eq, and_assoc]
theorem okM_no {t x y : Int} (h : ¬ (t < 8 ∧ (-16384 ≤ x ∧ x ≤ 16384) ∧ (-16384 ≤ y ∧ y ≤ 16384) ∧ (x + y) % 2 = 0)) : okM t x y = false := by
  rw [← Bool.not_eq_true, okM_iff]; exact h

/-- The matrices of the turns. -/
def mat : Nat → Int × Int × Int × Int
  | 0 => (1, 0, 0, 1) | 1 => (0, -1, 1, 0) | 2 => (-1, 0, 0, -1) | 3 => (0, 1, -1, 0)
  | 4 => (-1, 0, 0, 1) | 5 => (0, -1, -1, 0) | 6 => (1, 0, 0, -1) | _ => (0, 1, 1, 0)
def matOf (m : Int × Int × Int × Int) (x y : Int) : Int × Int := (m.1 * x + m.2.1 * y, m.2.2.1 * x + m.2.2.2 * y)
/-- One turn, and then another one. -/
def matThen (m n : Int × Int × Int × Int) : Int × Int × Int × Int := ((matOf n m.1 m.2.2.1).1, (matOf n m.2.1 m.2.2.2).1, (matOf n m.1 m.2.2.1).2, (matOf n m.2.1 m.2.2.2).2)
def matNum (m : Int × Int × Int × Int) : Nat := if m = mat 0 then 0 else if m = mat 1 then 1 else if m = mat 2 then 2 else if m = mat 3 then 3 else if m = mat 4 then 4 else if m = mat 5 then 5 else if m = mat 6 then 6 else if m = mat 7 then 7 else 0
/-- A valid move. -/
structure Mv where
  t : Nat
  x : Int
  y : Int
deriving DecidableEq
def Mv.ok (m : Mv) : Bool := okM m.t m.x m.y
def Mv.cells (m : Mv) : List Value := [.int .u8 m.t, .int .i64 m.x, .int .i64 m.y]
def Mv.v (m : Mv) : Value := .agg #[.int .u8 m.t, .int .i64 m.x, .int .i64 m.y]
def mv0 : Mv := ⟨0, 0, 0⟩
/-- The reflection in a line. -/
def ofL (k c : Int) : Mv := if k = 1 then ⟨4, 2 * c, 0⟩ else if k = 2 then ⟨6, 0, 2 * c⟩ else if k = 3 then ⟨5, c, c⟩ else ⟨7, -c, c⟩
/-- A move, or nothing and the error 3. -/
def limM (m : Mv) : Mv × Int := if m.ok then (m, 0) else (mv0, 3)
/-- One valid move and then another one. -/
def thenM (a b : Mv) : Mv × Int := limM ⟨matNum (matThen (mat a.t) (mat b.t)), (matOf (mat b.t) a.x a.y).1 + b.x, (matOf (mat b.t) a.x a.y).2 + b.y⟩
/-- Where a point goes. -/
def pointM (m : Mv) (x y : Int) : Int × Int := ((matOf (mat m.t) x y).1 + 2 * m.x, (matOf (mat m.t) x y).2 + 2 * m.y)

/-- A cell of the plane. -/
structure Cl where
  x : Int
  y : Int
  q : Nat
deriving DecidableEq
def Cl.ok (c : Cl) : Bool := okC c.x c.y c.q
def Cl.cells (c : Cl) : List Value := [.int .i64 c.x, .int .i64 c.y, .int .u8 c.q]
def Cl.v (c : Cl) : Value := .agg #[.int .i64 c.x, .int .i64 c.y, .int .u8 c.q]
def cl0 : Cl := ⟨0, 0, 0⟩
/-- From the middle of a square to that of the edge 0 of a quarter. -/
def qside : Nat → Int × Int
  | 0 => (0, -1) | 1 => (1, 0) | 2 => (0, 1) | _ => (-1, 0)
def sideQ (d : Int × Int) : Nat := if d = qside 3 then 3 else if d = qside 2 then 2 else if d = qside 1 then 1 else 0
/-- Where a valid move moves a valid cell. -/
def movedC (m : Mv) (c : Cl) : Cl := ⟨(pointM m (2 * c.x + 1) (2 * c.y + 1)).1 / 2, (pointM m (2 * c.x + 1) (2 * c.y + 1)).2 / 2, sideQ (matOf (mat m.t) (qside c.q).1 (qside c.q).2)⟩
def moveC (m : Mv) (c : Cl) : Cl × Int := if (movedC m c).ok then (movedC m c, 0) else (cl0, 3)
/-- The corners 1 and 2 of a quarter, from the corner of the square. -/
def qone : Nat → Int × Int
  | 0 => (0, 0) | 1 => (2, 2) | 2 => (2, 2) | _ => (0, 0)
def qtwo : Nat → Int × Int
  | 0 => (2, 0) | 1 => (2, 0) | 2 => (0, 2) | _ => (0, 2)
/-- The side of a valid cell, of a valid line. -/
def sideC (k c : Int) (e : Cl) : Nat :=
  if sideP k c (2 * e.x + 1) (2 * e.y + 1) = 1 ∨ sideP k c (2 * e.x + (qone e.q).1) (2 * e.y + (qone e.q).2) = 1 ∨ sideP k c (2 * e.x + (qtwo e.q).1) (2 * e.y + (qtwo e.q).2) = 1 then 1 else 0
/-- The order of cells. -/
def cmpC (a b : Cl) : Int := if cmpI a.y b.y ≠ 0 then cmpI a.y b.y else if cmpI a.x b.x ≠ 0 then cmpI a.x b.x else cmpI a.q b.q
/-- The line of an edge of a valid cell. -/
def lineC0 (c : Cl) (e : Nat) : Int × Int :=
  if e = 1 then (3, c.x + c.y + 1) else if e = 2 then (4, c.y - c.x)
  else match c.q with
    | 0 => (2, c.y) | 1 => (1, c.x + 1) | 2 => (2, c.y + 1) | _ => (1, c.x)
def lineE (c : Cl) (e : Nat) : (Int × Int) × Int := if okL (lineC0 c e).1 (lineC0 c e).2 then (lineC0 c e, 0) else ((0, 0), 3)
end Go.Proofs.YtjdmkgnlakonbaaGreatDoor
