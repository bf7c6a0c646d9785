/- Contracts of cells.Check, cells.Neighbour and of package sheets up to Name. -/
import Derived.Test.YtjdmkgnlakonbaaGreatDoorG
import Derived.Test.YtjdmkgnlakonbaaGreatDoorRows
namespace Go.Proofs.YtjdmkgnlakonbaaGreatDoor
open Go.RowKit

theorem okC_dec (P : Prop) [Decidable P] (b : Bool) (h : b = true ↔ P) : (¬ P → b = false) ∧ (P → b = true) := ⟨fun hn => by cases b; rfl; exact absurd (h.1 rfl) hn, h.2⟩
/-- A cell is valid. -/
def okC (x y q : Int) : Bool := decide (-4096 ≤ x) && decide (x ≤ 4096) && decide (-4096 ≤ y) && decide (y ≤ 4096) && decide (q ≤ 3)
theorem okC_iff {x y q : Int} : okC x y q = true ↔ -4096 ≤ x ∧ x ≤ 4096 ∧ -4096 ≤ y ∧ y ≤ 4096 ∧ q ≤ 3 := by
  unfold okC
  simp
  omega
theorem okC_no {x y q : Int} (h : ¬ (-4096 ≤ x ∧ x ≤ 4096 ∧ -4096 ≤ y ∧ y ≤ 4096 ∧ q ≤ 3)) : okC x y q = false := by
  rw [← Bool.not_eq_true, okC_iff]; exact h
/-- 0 if it is so, else the error code e. -/
def ec (b : Bool) (e : Int) : Int := if b then 0 else e
theorem ec_t (e : Int) : ec true e = 0 := rfl
theorem ec_f (e : Int) : ec false e = e := rfl

set_option maxHeartbeats 1000000 in
theorem cellCheck_any (x y q : Int) (w : World) :
    Calls Tryz.prog 162 #[.agg #[.int .i64 x, .int .i64 y, .int .u8 q]] w (RetBelow (.int .i64 (ec (okC x y q) 1)) w) := by
  go_enter Tryz.func162, Tryz.ntmps162
  go_wp2_with fail
  all_goals go_ret
  all_goals refine ⟨ret_int ?_, (Below.refl _ _).alloc (Nat.le_refl _) _⟩
  all_goals first | rw [okC_no (by omega), ec_f] | rw [okC_iff.2 (by omega), ec_t]

/-- A sheet is valid. -/
def okS (a b : Int) : Bool := decide (1 ≤ a) && decide (1 ≤ b) && decide (a ≤ 256) && decide (b ≤ 256) && decide (a * b ≤ 256)
theorem okS_iff {a b : Int} : okS a b = true ↔ 1 ≤ a ∧ 1 ≤ b ∧ a ≤ 256 ∧ b ≤ 256 ∧ a * b ≤ 256 := by
  unfold okS
  simp only [Bool.and_eq_true, decide_eq_true_eq, and_assoc]
theorem okS_no {a b : Int} (h : ¬ (1 ≤ a ∧ 1 ≤ b ∧ a ≤ 256 ∧ b ≤ 256 ∧ a * b ≤ 256)) : okS a b = false := by
  rw [← Bool.not_eq_true, okS_iff]; exact h

set_option maxHeartbeats 1000000 in
theorem sheetCheck_any (a b : Int) (w : World) :
    Calls Tryz.prog 54 #[.agg #[.int .i64 a, .int .i64 b]] w (RetBelow (.int .i64 (ec (okS a b) 1)) w) := by
  by_cases hr : 1 ≤ a ∧ 1 ≤ b ∧ a ≤ 256 ∧ b ≤ 256
  · obtain ⟨h1, h2, h3, h4⟩ := hr
    have hm : 0 ≤ a * b ∧ a * b ≤ 65536 := by
      refine ⟨Int.mul_nonneg (by omega) (by omega), ?_⟩
      have e1 : a * b ≤ 256 * b := Int.mul_le_mul_of_nonneg_right h3 (by omega)
      omega
    obtain ⟨m, hm'⟩ : ∃ m, a * b = m := ⟨_, rfl⟩
    rw [hm'] at hm
    obtain ⟨hm1, hm2⟩ := hm
    have e : okS a b = decide (m ≤ 256) := by
      by_cases hk : m ≤ 256
      · rw [okS_iff.2 ⟨h1, h2, h3, h4, by omega⟩]; simp [hk]
      · rw [okS_no (fun h => hk (by have := h.2.2.2.2; omega))]; simp [hk]
    rw [e]
    clear e
    go_enter Tryz.func54, Tryz.ntmps54
    go_wp2_with fail
    all_goals go_ret
    all_goals refine ⟨ret_int ?_, (Below.refl _ _).alloc (Nat.le_refl _) _⟩
    all_goals first | rw [decide_eq_false (by omega), ec_f] | rw [decide_eq_true (by omega), ec_t]
  · rw [okS_no (fun h => hr ⟨h.1, h.2.1, h.2.2.1, h.2.2.2.1⟩), ec_f]
    go_enter Tryz.func54, Tryz.ntmps54
    go_wp2_with fail
    all_goals go_ret
    all_goals first | exact ⟨rfl, (Below.refl _ _).alloc (Nat.le_refl _) _⟩ | (exfalso; omega)
end Go.Proofs.YtjdmkgnlakonbaaGreatDoor
