/- (*Job).do as one function of plain data. -/
import Derived.Test.YtdcgminjamofmaaDoorNext2
namespace Go.Proofs.YtdcgminjamofmaaDoor
open Go.RowKit

def doS (j : JobS) (k v : Int) : Nat ⊕ JobS :=
  if k = 2 then (if j.deliv = true then .inl 3 else if j.printed + v ≤ 1000000000 then .inr { j with printed := j.printed + v } else .inl 4)
  else if k = 3 then (if j.deliv = true then .inl 3 else if v ≤ j.printed - j.folded then .inr { j with printed := j.printed - v } else .inl 3)
  else if k = 4 then (if j.deliv = true then .inl 3 else if v ≤ j.printed - j.folded then .inr { j with folded := j.folded + v } else .inl 3)
  else if k = 5 then (if j.deliv = true then .inl 3 else if v ≤ j.folded - j.cut then .inr { j with cut := j.cut + v } else .inl 3)
  else (if j.deliv = true then .inl 3 else if j.copies ≤ j.cut then .inr { j with deliv := true } else .inl 3)

/-- What do needs of memory: the job's six cells. -/
structure JobAt (w : World) (b o : Nat) (j : JobS) : Prop where
  lt : b < w.heap.size
  c0 : w.cell? ⟨b, o, none⟩ = some (.int .i64 j.job)
  c1 : w.cell? ⟨b, o + 1, none⟩ = some (.int .i64 j.copies)
  c2 : w.cell? ⟨b, o + 2, none⟩ = some (.int .i64 j.printed)
  c3 : w.cell? ⟨b, o + 3, none⟩ = some (.int .i64 j.folded)
  c4 : w.cell? ⟨b, o + 4, none⟩ = some (.int .i64 j.cut)
  c5 : w.cell? ⟨b, o + 5, none⟩ = some (.bool j.deliv)
  fz : ∀ f, w.frozen? ⟨b, o + f, none⟩ = false

theorem do_err (w : World) (b o : Nat) (jb : JobS) (s : Nat → Addr) (hS : Sent w s) (hj : JobAt w b o jb) (hinv : jb.inv) (t k j v : Int) (hk : 2 ≤ k ∧ k ≤ 6) (hv : 0 ≤ v ∧ v ≤ 16777215) (p : Nat) (hp : doS jb k v = .inl p) :
    Calls Tryd.prog 44 #[.pointer (some ⟨b, o, none⟩), .agg #[.int .i64 t, .int .u8 k, .int .i64 j, .int .i64 v]] w (RetBelow (.iface 125 (.pointer (some (s p)))) w) := by
  obtain ⟨_, _, i1, i2, i3, i4⟩ := hinv
  obtain ⟨J, C, P, F, U, D⟩ := jb
  dsimp only at *
  obtain ⟨lt, c0, c1, c2, c3, c4, c5, fz⟩ := hj
  dsimp only at *
  unfold doS at hp
  dsimp only at hp
  obtain h | h | h | h | h : k = 2 ∨ k = 3 ∨ k = 4 ∨ k = 5 ∨ k = 6 := by omega
  all_goals subst h
  · rw [if_pos rfl] at hp
    cases D
    · simp only [Bool.false_eq_true, if_false] at hp
      split at hp
      · cases hp
      · cases hp
        exact do_print_lim b o J C P F U t j v w lt c0 c1 c2 c3 c4 c5 i1 i2 i3 i4 hv.1 hv.2 (by assumption) _ hS.v4
    · cases hp
      exact do_print_del b o J C P F U t j v w lt c0 c1 c2 c3 c4 c5 i1 i2 i3 i4 hv.1 hv.2 _ hS.v3
  · rw [if_neg (by decide), if_pos rfl] at hp
    cases D
    · simp only [Bool.false_eq_true, if_false] at hp
      split at hp
      · cases hp
      · cases hp
        exact do_spoil_room b o J C P F U t j v w lt c0 c1 c2 c3 c4 c5 i1 i2 i3 i4 hv.1 hv.2 (by omega) _ hS.v3
    · cases hp
      exact do_spoil_del b o J C P F U t j v w lt c0 c1 c2 c3 c4 c5 i1 i2 i3 i4 hv.1 hv.2 _ hS.v3
  · rw [if_neg (by decide), if_neg (by decide), if_pos rfl] at hp
    cases D
    · simp only [Bool.false_eq_true, if_false] at hp
      split at hp
      · cases hp
      · cases hp
        exact do_fold_room b o J C P F U t j v w lt c0 c1 c2 c3 c4 c5 i1 i2 i3 i4 hv.1 hv.2 (by omega) _ hS.v3
    · cases hp
      exact do_fold_del b o J C P F U t j v w lt c0 c1 c2 c3 c4 c5 i1 i2 i3 i4 hv.1 hv.2 _ hS.v3
  · rw [if_neg (by decide), if_neg (by decide), if_neg (by decide), if_pos rfl] at hp
    cases D
    · simp only [Bool.false_eq_true, if_false] at hp
      split at hp
      · cases hp
      · cases hp
        exact do_cut_room b o J C P F U t j v w lt c0 c1 c2 c3 c4 c5 i1 i2 i3 i4 hv.1 hv.2 (by omega) _ hS.v3
    · cases hp
      exact do_cut_del b o J C P F U t j v w lt c0 c1 c2 c3 c4 c5 i1 i2 i3 i4 hv.1 hv.2 _ hS.v3
  · rw [if_neg (by decide), if_neg (by decide), if_neg (by decide), if_neg (by decide)] at hp
    cases D
    · simp only [Bool.false_eq_true, if_false] at hp
      split at hp
      · cases hp
      · cases hp
        exact do_deliver_few b o J C P F U t j v w lt c0 c1 c2 c3 c4 c5 i1 i2 i3 i4 (by omega) _ hS.v3
    · cases hp
      exact do_deliver_del b o J C P F U t j v w lt c0 c1 c2 c3 c4 c5 i1 i2 i3 i4 _ hS.v3

/-- do has changed one cell of the job, which is then the job j'. -/
def DoDone (w : World) (b o : Nat) (jb j' : JobS) (e : Ending) (w' : World) : Prop :=
  e = .returned .nilIface ∧ ∃ f u, f < 6 ∧ j'.cells = jb.cells.set f u ∧ Below w.heap.size (w.setCell ⟨b, o + f, none⟩ u) w'

theorem do_ok (w : World) (b o : Nat) (jb j' : JobS) (hj : JobAt w b o jb) (hinv : jb.inv) (t k j v : Int) (hk : 2 ≤ k ∧ k ≤ 6) (hv : 0 ≤ v ∧ v ≤ 16777215) (hp : doS jb k v = .inr j') :
    Calls Tryd.prog 44 #[.pointer (some ⟨b, o, none⟩), .agg #[.int .i64 t, .int .u8 k, .int .i64 j, .int .i64 v]] w (DoDone w b o jb j') := by
  obtain ⟨_, _, i1, i2, i3, i4⟩ := hinv
  obtain ⟨J, C, P, F, U, D⟩ := jb
  dsimp only at *
  obtain ⟨lt, c0, c1, c2, c3, c4, c5, fz⟩ := hj
  dsimp only at *
  unfold doS at hp
  dsimp only at hp
  obtain h | h | h | h | h : k = 2 ∨ k = 3 ∨ k = 4 ∨ k = 5 ∨ k = 6 := by omega
  all_goals subst h
  · rw [if_pos rfl] at hp
    cases D
    · simp only [Bool.false_eq_true, if_false] at hp
      split at hp
      · cases hp
        refine (do_print_ok b o J C P F U t j v w lt c0 c1 c2 c3 c4 c5 i1 i2 i3 i4 hv.1 hv.2 (fz 2) (by assumption)).mono ?_
        rintro e w' ⟨rfl, hb⟩
        exact ⟨rfl, 2, _, by omega, rfl, hb⟩
      · cases hp
    · cases hp
  · rw [if_neg (by decide), if_pos rfl] at hp
    cases D
    · simp only [Bool.false_eq_true, if_false] at hp
      split at hp
      · cases hp
        refine (do_spoil_ok b o J C P F U t j v w lt c0 c1 c2 c3 c4 c5 i1 i2 i3 i4 hv.1 hv.2 (fz 2) (by assumption)).mono ?_
        rintro e w' ⟨rfl, hb⟩
        exact ⟨rfl, 2, _, by omega, rfl, hb⟩
      · cases hp
    · cases hp
  · rw [if_neg (by decide), if_neg (by decide), if_pos rfl] at hp
    cases D
    · simp only [Bool.false_eq_true, if_false] at hp
      split at hp
      · cases hp
        refine (do_fold_ok b o J C P F U t j v w lt c0 c1 c2 c3 c4 c5 i1 i2 i3 i4 hv.1 hv.2 (fz 3) (by assumption)).mono ?_
        rintro e w' ⟨rfl, hb⟩
        exact ⟨rfl, 3, _, by omega, rfl, hb⟩
      · cases hp
    · cases hp
  · rw [if_neg (by decide), if_neg (by decide), if_neg (by decide), if_pos rfl] at hp
    cases D
    · simp only [Bool.false_eq_true, if_false] at hp
      split at hp
      · cases hp
        refine (do_cut_ok b o J C P F U t j v w lt c0 c1 c2 c3 c4 c5 i1 i2 i3 i4 hv.1 hv.2 (fz 4) (by assumption)).mono ?_
        rintro e w' ⟨rfl, hb⟩
        exact ⟨rfl, 4, _, by omega, rfl, hb⟩
      · cases hp
    · cases hp
  · rw [if_neg (by decide), if_neg (by decide), if_neg (by decide), if_neg (by decide)] at hp
    cases D
    · simp only [Bool.false_eq_true, if_false] at hp
      split at hp
      · cases hp
        refine (do_deliver_ok b o J C P F U t j v w lt c0 c1 c2 c3 c4 c5 i1 i2 i3 i4 (by assumption) (fz 5)).mono ?_
        rintro e w' ⟨rfl, hb⟩
        exact ⟨rfl, 5, _, by omega, rfl, hb⟩
      · cases hp
    · cases hp
end Go.Proofs.YtdcgminjamofmaaDoor
