/- Contract of Map.best at a valid map: a choice that fits the part, and a table that stays sound. -/
import Derived.Test.YtcgbdkjelbgcfaaGreatDoorKnw
namespace Go.Proofs.YtcgbdkjelbgcfaaGreatDoor
open Go.RowKit

theorem leftP_in {W H : Nat} {p : Pt} {way c : Nat} (hp : InM W H p) (hw : way ≤ 1) (h1 : p.from' way < c) (h2 : c < p.to way) : InM W H (leftP p way c).1 := by
  obtain ⟨a, b, cc, d⟩ := p
  obtain ⟨⟨x1, x2⟩, y1, y2⟩ := hp
  dsimp only at x1 x2 y1 y2
  obtain rfl | rfl : way = 0 ∨ way = 1 := by omega
  all_goals
    simp [Pt.from', Pt.to] at h1 h2
    unfold leftP
    simp only [Pt.from', Pt.to]
    simp only [if_true, Nat.one_ne_zero, if_false]
    split <;> (constructor <;> constructor <;> simp only <;> omega)
def Pt.area (p : Pt) : Nat := (p.b - p.a) + (p.d - p.c)
theorem leftP_area {W H : Nat} {p : Pt} {way c : Nat} (hp : InM W H p) (hw : way ≤ 1) (h1 : p.from' way < c) (h2 : c < p.to way) : (leftP p way c).1.area < p.area := by
  obtain ⟨a, b, cc, d⟩ := p
  obtain ⟨⟨x1, x2⟩, y1, y2⟩ := hp
  dsimp only at x1 x2 y1 y2
  obtain rfl | rfl : way = 0 ∨ way = 1 := by omega
  all_goals
    simp [Pt.from', Pt.to] at h1 h2
    unfold leftP
    simp only [Pt.from', Pt.to, Pt.area]
    simp only [if_true, Nat.one_ne_zero, if_false]
    split <;> (simp only <;> omega)

theorem known_cell {w : World} {M : Nat} (h : KnownOk w M) (o : Nat) : w.cell? ⟨M, o, none⟩ = none := by
  obtain ⟨es, clock, hb, _⟩ := h
  simp [World.cell?, hb]
theorem MapOk.grown {w w' : World} {RA UA : Option Addr} {R U : List Row} {M : Nat} (h : MapOk w RA UA R U) (hk : KnownOk w M) (hk' : KnownOk w' M) (hg : w.grownBy w' (some M)) : MapOk w' RA UA R U := by
  have hc : ∀ b o, b < w.heap.size → w'.cell? ⟨b, o, none⟩ = w.cell? ⟨b, o, none⟩ := by
    intro b o hb
    by_cases e : b = M
    · subst e; rw [known_cell hk, known_cell hk']
    · have := hg.block b hb (fun x => e (Option.some.inj x))
      simp only [World.cell?, this]
  have hrow : ∀ {r : Row}, RowOk w r → RowOk w' r := fun hr => ⟨hr.rd.keep hg.size hc, hr.nil, hr.kind⟩
  have hrows : ∀ {A : Option Addr} {rs : List Row}, RowsOk w A rs → RowsOk w' A rs := fun hr => ⟨hr.rd.keep hg.size hc, hr.nil, fun r h => hrow (hr.row r h)⟩
  exact ⟨hrows h.r, hrows h.u, h.rl, h.ul, h.rk, h.uk⟩

/-- What holds inside best: its boxes, the table M, and old memory. -/
structure BI (w : World) (N G M : Nat) (mc pc : Array Value) (q : Pt) (wr : World) : Prop where
  m : wr.heap[N]? = some (.cells mc 24 (0, 0))
  p : wr.heap[N + 1]? = some (.cells pc 64 (0, 0))
  r : wr.heap[N + 1 + 1]? = some (.cells #[.int .i64 0, .int .i64 0, .int .i64 0] 73 (0, 0))
  o : ∃ f y c, wr.heap[G + 1]? = some (.cells #[.int .i64 f, .int .i64 y, .int .i64 c] 73 (0, 0)) ∧ GoodC q f y c
  k : KnownOk wr M
  g : w.grownBy wr (some M)
  s : G + 1 < wr.heap.size
theorem BI.below {w wr w' : World} {N G M : Nat} {mc pc : Array Value} {p : Pt} (h : BI w N G M mc pc p wr) (hM : M < N) (hN : N = w.heap.size) (hG : N + 1 + 1 < G) (hb : Below (G + 1 + 1) wr w') : BI w N G M mc pc p w' := by
  obtain ⟨f, y, c, ho, hC⟩ := h.o
  refine ⟨kept hb h.m (by omega), kept hb h.p (by omega), kept hb h.r (by omega), ⟨f, y, c, kept hb ho (by omega), hC⟩, h.k.below hb (by omega), ?_, Nat.lt_of_lt_of_le h.s hb.size⟩
  exact ⟨hb.os.trans h.g.os, hb.tape.trans h.g.tape, hb.output.trans h.g.output, Nat.le_trans h.g.size hb.size, fun i hi hne => (hb.block i (by omega)).trans (h.g.block i hi hne)⟩
theorem BI.grown {w wr w' : World} {N G M : Nat} {mc pc : Array Value} {p : Pt} (h : BI w N G M mc pc p wr) (hM : M < N) (hG : N + 1 + 1 < G) (hg : wr.grownBy w' (some M)) (hk : KnownOk w' M) : BI w N G M mc pc p w' := by
  have hs := h.s
  have kp : ∀ {i : Nat} {o : Obj}, wr.heap[i]? = some o → N ≤ i → w'.heap[i]? = some o := fun hi hn => (hg.block _ (Array.getElem?_eq_some_iff.1 hi).1 (fun e => by injection e with e; omega)).trans hi
  obtain ⟨f, y, c, ho, hC⟩ := h.o
  exact ⟨kp h.m (by omega), kp h.p (by omega), kp h.r (by omega), ⟨f, y, c, kp ho (by omega), hC⟩, hk, grown_tr h.g hg, Nat.lt_of_lt_of_le h.s hg.size⟩
theorem setCell1 {wr : World} {g j : Nat} {t : TypeId} {c : Array Value} {f : Nat × Nat} (h : wr.heap[g]? = some (.cells c t f)) (v : Value) :
    (wr.setCell ⟨g, j, none⟩ v).heap[g]? = some (.cells (c.setIfInBounds j v) t f) ∧ (wr.setCell ⟨g, j, none⟩ v).heap.size = wr.heap.size ∧ ∀ i, i ≠ g → (wr.setCell ⟨g, j, none⟩ v).heap[i]? = wr.heap[i]? := by
  have hlt := (Array.getElem?_eq_some_iff.1 h).1
  refine ⟨?_, by simp [World.setCell], fun i hi => ?_⟩
  · simp [World.setCell, Array.getElem?_modify, h]
  · simp [World.setCell, Array.getElem?_modify, Ne.symm hi]
theorem setCell3 {wr : World} {g : Nat} {t : TypeId} {x0 x1 x2 : Value} (h : wr.heap[g]? = some (.cells #[x0, x1, x2] t (0, 0))) (y0 y1 y2 : Value) :
    (((wr.setCell ⟨g, 0, none⟩ y0).setCell ⟨g, 1, none⟩ y1).setCell ⟨g, 2, none⟩ y2).heap[g]? = some (.cells #[y0, y1, y2] t (0, 0)) ∧
    (((wr.setCell ⟨g, 0, none⟩ y0).setCell ⟨g, 1, none⟩ y1).setCell ⟨g, 2, none⟩ y2).heap.size = wr.heap.size ∧
    ∀ i, i ≠ g → (((wr.setCell ⟨g, 0, none⟩ y0).setCell ⟨g, 1, none⟩ y1).setCell ⟨g, 2, none⟩ y2).heap[i]? = wr.heap[i]? := by
  obtain ⟨a1, a2, a3⟩ := setCell1 (j := 0) h y0
  obtain ⟨b1, b2, b3⟩ := setCell1 (j := 1) a1 y1
  obtain ⟨c1, c2, c3⟩ := setCell1 (j := 2) b1 y2
  exact ⟨c1, c2.trans (b2.trans a2), fun i hi => (c3 i hi).trans ((b3 i hi).trans (a3 i hi))⟩
theorem BI.out {w wr : World} {N G M : Nat} {mc pc : Array Value} {p : Pt} (h : BI w N G M mc pc p wr) (hM : M < N) (hN : N = w.heap.size) (hNG : N + 1 + 1 < G) (f y c : Int) (hG : GoodC p f y c) :
    BI w N G M mc pc p (((wr.setCell ⟨G + 1, 0, none⟩ (.int .i64 f)).setCell ⟨G + 1, 1, none⟩ (.int .i64 y)).setCell ⟨G + 1, 2, none⟩ (.int .i64 c)) := by
  obtain ⟨f', y', c', ho, _⟩ := h.o
  obtain ⟨e1, e2, e3⟩ := setCell3 ho (.int .i64 f) (.int .i64 y) (.int .i64 c)
  have hs := h.s
  refine ⟨(e3 _ (by omega)).trans h.m, (e3 _ (by omega)).trans h.p, (e3 _ (by omega)).trans h.r, ⟨f, y, c, e1, hG⟩, ?_, ?_, by rw [e2]; exact hs⟩
  · obtain ⟨es, clock, hm, hes⟩ := h.k
    exact ⟨es, clock, (e3 _ (by omega)).trans hm, hes⟩
  · exact ⟨h.g.os, h.g.tape, h.g.output, by rw [e2]; exact h.g.size, fun i hi hne => (e3 i (by omega)).trans (h.g.block i hi hne)⟩
theorem grown_of_below {w w' : World} {N : Nat} {r : Option Nat} (hN : N = w.heap.size) (h : Below N w w') : w.grownBy w' r := by
  subst hN; exact ⟨h.os, h.tape, h.output, h.size, fun i hi _ => h.block i hi⟩
theorem grown_then_below {w a b : World} {N : Nat} {r : Option Nat} (hN : N = w.heap.size) (h : w.grownBy a r) (k : Below N a b) : w.grownBy b r := by
  subst hN; exact ⟨k.os.trans h.os, k.tape.trans h.tape, k.output.trans h.output, Nat.le_trans h.size k.size, fun i hi hne => (k.block i hi).trans (h.block i hi hne)⟩
theorem grown_kept {w w' : World} {i M : Nat} {o : Obj} (hg : w.grownBy w' (some M)) (h : w.heap[i]? = some o) (hne : i ≠ M) : w'.heap[i]? = some o :=
  (hg.block i (Array.getElem?_eq_some_iff.1 h).1 (fun e => hne (Option.some.inj e))).trans h
/-- What best returns. -/
def BestRet (M : Nat) (p : Pt) (w : World) (e : Ending) (w' : World) : Prop :=
  ∃ f way c, e = .returned (chV f way c) ∧ GoodC p f way c ∧ KnownOk w' M ∧ w.grownBy w' (some M)
end Go.Proofs.YtcgbdkjelbgcfaaGreatDoor
