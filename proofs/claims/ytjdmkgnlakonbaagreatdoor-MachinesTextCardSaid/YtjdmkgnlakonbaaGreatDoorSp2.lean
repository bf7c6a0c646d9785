/- What places, stacks, seams, states and folds compute, in plain Lean. No function of the program is named; no condition. -/
import Derived.Test.YtjdmkgnlakonbaaGreatDoorSp
import Derived.Test.YtjdmkgnlakonbaaGreatDoorPat2
namespace Go.Proofs.YtjdmkgnlakonbaaGreatDoor

/-- The cell of a sheet with an id. -/
def cellN (a : Int) (i : Nat) : Cl := ⟨(i : Int) / 4 % a, (i : Int) / 4 / a, i % 4⟩
def isCr (l : List Cr) (c e : Int) : Bool := l.any fun r => decide (r.c = c) && decide (r.e = e)
/-- The line of a unit of a valid sheet. -/
def lineS (a b c e : Int) : (Int × Int) × Int := if nameI a b c e = (c, e, 0) then lineE (cellN a c.toNat) e.toNat else ((0, 0), 7)
def moveL (l : Int × Int) : Mv × Int := if okL l.1 l.2 then (ofL l.1 l.2, 0) else (mv0, 1)
def thenG (a b : Mv) : Mv × Int := if a.ok && b.ok then thenM a b else (mv0, 1)
def moveG (m : Mv) (c : Cl) : Cl × Int := if m.ok && c.ok then moveC m c else (cl0, 1)
/-- The place of the neighbour of a cell across an edge. -/
def acrossF (a b : Int) (l : List Cr) (out : List Mv) (id e : Nat) : Mv :=
  if isCr l (nameI a b id e).1 (nameI a b id e).2.1 then (thenG (moveL (lineS a b (nameI a b id e).1 (nameI a b id e).2.1).1).1 (out.getD id mv0)).1 else out.getD id mv0
structure RS where
  out : List Mv
  known : List Bool
  wait : List Nat
def relE (a b : Int) (l : List Cr) (id e : Nat) (s : RS) : Option RS :=
  if (nbI a b id e).2 ≠ 0 then some s
  else
    let n := (nbI a b id e).1.toNat
    let m := acrossF a b l s.out id e
    let s' : RS := if s.known.getD n false then s else ⟨s.out.set n m, s.known.set n true, s.wait ++ [n]⟩
    if s'.out.getD n mv0 = m then some s' else none
def relStep (a b : Int) (l : List Cr) (id : Nat) (s : RS) : Option RS := (relE a b l id 0 s).bind fun s => (relE a b l id 1 s).bind fun s => relE a b l id 2 s
def relGo (a b : Int) (l : List Cr) : Nat → RS → Option (List Mv)
  | 0, s => some s.out
  | f + 1, s => match s.wait with
    | [] => some s.out
    | id :: r => (relStep a b l id ⟨s.out, s.known, r⟩).bind (relGo a b l f)
def countN (a b : Int) : Nat := (4 * a * b).toNat
/-- The places of the cells of a valid pattern if the root is the identity. -/
def relF (a b : Int) (l : List Cr) : Option (List Mv) := relGo a b l (countN a b + 1) ⟨List.replicate (countN a b) mv0, true :: List.replicate (countN a b - 1) false, [0]⟩
/-- What is wrong with the cell i. -/
def bothE (a : Int) (root : Mv) (l : List Mv) (i : Nat) : Int := if (thenG (l.getD i mv0) root).2 ≠ 0 then (thenG (l.getD i mv0) root).2 else (moveG (thenG (l.getD i mv0) root).1 (cellN a i)).2
/-- The places and the images of all cells of a valid pattern. -/
def bothF (a b : Int) (l : List Cr) (root : Mv) : (List Mv × List Cl) × Int :=
  if root.ok = false then (([], []), 1)
  else match relF a b l with
    | none => (([], []), 11)
    | some m => match (List.range m.length).find? fun i => bothE a root m i ≠ 0 with
      | some i => (([], []), bothE a root m i)
      | none => ((m.map fun x => (thenG x root).1, (List.range m.length).map fun i => (moveG (thenG (m.getD i mv0) root).1 (cellN a i)).1), 0)
def flipsM (m : Mv) : Bool := m.ok && decide (4 ≤ m.t)
/-- Which cells lie face up. -/
def upF (a b : Int) (l : List Cr) (root : Mv) : List Bool × Int :=
  if (bothF a b l root).2 ≠ 0 then ([], (bothF a b l root).2) else ((bothF a b l root).1.1.map fun m => !flipsM m, 0)

/-- A stack: a cell of the plane, and what lies over it, from the lowest one. -/
structure Stk where
  c : Cl
  ls : List Nat
def stkBad (n : Nat) (l : List Stk) (i : Nat) : Bool := match l[i]? with
  | none => false
  | some x => !x.c.ok || (match i with | 0 => false | j + 1 => match l[j]? with | none => false | some y => decide (0 ≤ cmpC y.c x.c)) || x.ls.isEmpty || x.ls.any fun id => decide (n ≤ id)
def allIds (l : List Stk) : List Nat := l.flatMap (·.ls)
/-- Why stacks are not valid, at a valid sheet of n cells. -/
def chkS (n : Nat) (l : List Stk) : Int :=
  if (List.range l.length).any (stkBad n l) then 1 else if ¬ (allIds l).Nodup then 8 else if (allIds l).length < n then 6 else 0
end Go.Proofs.YtjdmkgnlakonbaaGreatDoor
