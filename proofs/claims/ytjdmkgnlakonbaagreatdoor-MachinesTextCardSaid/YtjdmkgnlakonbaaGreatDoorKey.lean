/- Units of sheets as keys of maps. -/
import Derived.Test.YtjdmkgnlakonbaaGreatDoorMp
namespace Go.Proofs.YtjdmkgnlakonbaaGreatDoor
open Go.RowKit

def unK (u : Int × Int) : Value := .agg #[.int .i64 u.1, .int .u8 u.2]
theorem k_int : Tryz.prog.underlying 3 = some (.int .i64) := by kernel_rfl
theorem k_u8 : Tryz.prog.underlying 5 = some (.int .u8) := by kernel_rfl
theorem unit_held : Tryz.prog.stoodInHeld 109 = false := by kernel_rfl
theorem unit_p0 (a b : Int) (w : World) : (part 3 #[Value.int .i64 a, .int .u8 b] 0).run Tryz.prog w = .ok (.int .i64 a) w := by kernel_rfl
theorem unit_p1 (a b : Int) (w : World) : (part 5 #[Value.int .i64 a, .int .u8 b] 1).run Tryz.prog w = .ok (.int .u8 b) w := by kernel_rfl
theorem k_int_eq (d : Nat) (a b : Int) (w : World) : (Op.equalIn (d + 1) 3 (.int .i64 a) (.int .i64 b)).run Tryz.prog w = .ok (a == b) w := by
  simp [Op.equalIn, run_underlying k_int]
theorem k_u8_eq (d : Nat) (a b : Int) (w : World) : (Op.equalIn (d + 1) 5 (.int .u8 a) (.int .u8 b)).run Tryz.prog w = .ok (a == b) w := by
  simp [Op.equalIn, run_underlying k_u8]
theorem unit_equal (p q : Int × Int) (w : World) : (Op.equal 109 (unK p) (unK q)).run Tryz.prog w = .ok (decide (p = q)) w := by
  obtain ⟨a, b⟩ := p
  obtain ⟨a', b'⟩ := q
  have h : ∀ n, (Op.equalIn (n + 1 + 1) 109 (unK (a, b)) (unK (a', b'))).run Tryz.prog w = .ok (decide ((a, b) = (a', b'))) w := by
    intro n
    unfold Op.equalIn
    simp only [Sem.run_bind, run_underlying Tryz.underlying109, Result.andThen_ok, unK, run_program, unit_held, Bool.false_eq_true, if_false]
    simp [unit_p0, unit_p1, k_int_eq, k_u8_eq]
    by_cases h0 : a = a' <;> by_cases h1 : b = b' <;> simp [h0, h1]
  exact h 9998
theorem unit_keyT : KeyT (κ := Int × Int) 109 unK where
  now := ⟨_, Tryz.underlying109, fun p q => rfl⟩
  eq := unit_equal
  check := fun b p w => by kernel_rfl
  bits := fun p => by
    have h : ∀ n, Instr.sameBits (n + 1 + 1) (unK p) (unK p) = true := by intro n; simp [Instr.sameBits, unK]
    exact h 9998
end Go.Proofs.YtjdmkgnlakonbaaGreatDoor
