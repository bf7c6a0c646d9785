/- Contracts of journals.Check and journals.Sum. No condition beyond the ranges of Go's types. -/
import Derived.Test.YtdcgminjamofmaaDoorRows
import Derived.Test.YtdcgminjamofmaaDoorBase
namespace Go.Proofs.YtdcgminjamofmaaDoor
open Go.RowKit

def okRec (t k j v : Int) : Bool := decide (0 ≤ t) && decide (t ≤ 1000000000) && decide (1 ≤ k) && decide (k ≤ 6) && decide (1 ≤ j) && decide (j ≤ 65535) && decide (0 ≤ v) && decide (v ≤ 16777215) && (k != 6 || v == 0)
def chk (t k j v : Int) : Int := if okRec t k j v then 0 else 1

theorem okRec_iff {t k j v : Int} : okRec t k j v = true ↔ (0 ≤ t ∧ t ≤ 1000000000 ∧ 1 ≤ k ∧ k ≤ 6 ∧ 1 ≤ j ∧ j ≤ 65535 ∧ 0 ≤ v ∧ v ≤ 16777215) ∧ (k = 6 → v = 0) := by
  unfold okRec
  simp
  omega

theorem chk_bad {t k j v : Int} (h : ¬ (0 ≤ t ∧ t ≤ 1000000000 ∧ 1 ≤ k ∧ k ≤ 6 ∧ 1 ≤ j ∧ j ≤ 65535 ∧ 0 ≤ v ∧ v ≤ 16777215)) : chk t k j v = 1 := by
  unfold chk; rw [if_neg (fun h' => h (okRec_iff.1 h').1)]
theorem chk_bad6 {t k j v : Int} (h : k = 6) (h' : (v != 0) = true) : chk t k j v = 1 := by
  unfold chk; rw [if_neg (fun h2 => (bne_iff_ne.1 h') ((okRec_iff.1 h2).2 h))]
theorem chk_good6 {t k j v : Int} (h : 0 ≤ t ∧ t ≤ 1000000000) (h1 : 1 ≤ j ∧ j ≤ 65535) (hk : k = 6) (h' : (v != 0) = false) : chk t k j v = 0 := by
  unfold chk
  have hv : v = 0 := by simpa using h'
  rw [if_pos (okRec_iff.2 ⟨by omega, fun _ => hv⟩)]
theorem chk_good {t k j v : Int} (h : (0 ≤ t ∧ t ≤ 1000000000 ∧ 1 ≤ k ∧ k ≤ 6 ∧ 1 ≤ j ∧ j ≤ 65535 ∧ 0 ≤ v ∧ v ≤ 16777215)) (h' : ¬ k = 6) : chk t k j v = 0 := by
  unfold chk; rw [if_pos (okRec_iff.2 ⟨h, fun e => absurd e h'⟩)]

theorem idx0 (a0 a1 a2 a3 a4 a5 a6 a7 a8 a9 a10 a11 : Value) (w : World) : (Instr.index 85 (.agg #[a0,a1,a2,a3,a4,a5,a6,a7,a8,a9,a10,a11]) (.int .i64 0)).run Tryd.prog w = .ok (.agg #[a0,a1,a2]) w := by kernel_rfl
theorem idx1 (a0 a1 a2 a3 a4 a5 a6 a7 a8 a9 a10 a11 : Value) (w : World) : (Instr.index 85 (.agg #[a0,a1,a2,a3,a4,a5,a6,a7,a8,a9,a10,a11]) (.int .i64 1)).run Tryd.prog w = .ok (.agg #[a3,a4,a5]) w := by kernel_rfl
theorem idx2 (a0 a1 a2 a3 a4 a5 a6 a7 a8 a9 a10 a11 : Value) (w : World) : (Instr.index 85 (.agg #[a0,a1,a2,a3,a4,a5,a6,a7,a8,a9,a10,a11]) (.int .i64 2)).run Tryd.prog w = .ok (.agg #[a6,a7,a8]) w := by kernel_rfl
theorem idx3 (a0 a1 a2 a3 a4 a5 a6 a7 a8 a9 a10 a11 : Value) (w : World) : (Instr.index 85 (.agg #[a0,a1,a2,a3,a4,a5,a6,a7,a8,a9,a10,a11]) (.int .i64 3)).run Tryd.prog w = .ok (.agg #[a9,a10,a11]) w := by kernel_rfl

set_option maxHeartbeats 1000000 in
theorem check_any (t k j v : Int) (w : World) (hk0 : 0 ≤ k) (hk : k ≤ 255) :
    Calls Tryd.prog 23 #[.agg #[.int .i64 t, .int .u8 k, .int .i64 j, .int .i64 v]] w (RetBelow (.int .i64 (chk t k j v)) w) := by
  have i0 := idx0
  have i1 := idx1
  have i2 := idx2
  have i3 := idx3
  go_enter Tryd.func23, Tryd.ntmps23
  go_wp2
  refine wp_loop_rounds 5 ?_
  rw [rounds_succ]
  go_wp2
  any_goals (go_ret; exact ⟨ret_int (chk_bad (by omega)).symm, by repeat' (first | exact Below.refl _ _ | refine Below.alloc ?_ (by simp) _)⟩)
  rw [rounds_succ]
  go_wp2
  any_goals (go_ret; exact ⟨ret_int (chk_bad (by omega)).symm, by repeat' (first | exact Below.refl _ _ | refine Below.alloc ?_ (by simp <;> omega) _)⟩)
  rw [rounds_succ]
  go_wp2
  any_goals (go_ret; exact ⟨ret_int (chk_bad (by omega)).symm, by repeat' (first | exact Below.refl _ _ | refine Below.alloc ?_ (by simp <;> omega) _)⟩)
  rw [rounds_succ]
  go_wp2
  any_goals (go_ret; exact ⟨ret_int (chk_bad (by omega)).symm, by repeat' (first | exact Below.refl _ _ | refine Below.alloc ?_ (by simp <;> omega) _)⟩)
  rw [rounds_succ]
  go_wp2
  · go_ret
    exact ⟨ret_int (chk_bad6 ‹_› ‹_›).symm, by repeat' (first | exact Below.refl _ _ | refine Below.alloc ?_ (by simp <;> omega) _)⟩
  · go_ret
    exact ⟨ret_int (chk_good6 ‹_› ‹_› ‹_› ‹_›).symm, by repeat' (first | exact Below.refl _ _ | refine Below.alloc ?_ (by simp <;> omega) _)⟩
  · go_ret
    exact ⟨ret_int (chk_good (by omega) ‹_›).symm, by repeat' (first | exact Below.refl _ _ | refine Below.alloc ?_ (by simp <;> omega) _)⟩

def wsum : Nat → List Int → Int
  | _, [] => 0
  | i, b :: r => (i + 1) * b + wsum (i + 1) r
def jsum (bs : List Int) : Int := wsum 0 bs % 65536
def bts (bs : List Int) : List Value := bs.map (Value.int .u8)
theorem wsum_snoc (i : Nat) (l : List Int) (b : Int) : wsum i (l ++ [b]) = wsum i l + (i + l.length + 1) * b := by
  induction l generalizing i with
  | nil => simp [wsum]
  | cons a r ih =>
    simp only [List.cons_append, wsum, ih, List.length_cons]
    have : ((i + 1 : Nat) : Int) + (r.length : Int) + 1 = (i : Int) + ((r.length + 1 : Nat) : Int) + 1 := by omega
    rw [this]; omega
theorem wrap16 (n : Int) : IntKind.u16.wrap n = n % 65536 := by simp [IntKind.wrap, IntKind.bits, IntKind.signed]
theorem jsum_step (bs : List Int) (k : Nat) (hk : k < bs.length) (x : Int) (hx : bs[k] = x) :
    IntKind.u16.wrap (jsum (bs.take k) + IntKind.u16.wrap (IntKind.u16.wrap ((k : Int) + 1) * x)) = jsum (bs.take (k + 1)) := by
  rw [List.take_succ_eq_append_getElem hk, hx]
  unfold jsum
  rw [wsum_snoc, List.length_take, Nat.min_eq_left (by omega)]
  simp only [wrap16]
  simp [Int.add_emod, Int.mul_emod]

set_option maxHeartbeats 400000 in
theorem sum_any (A : Option Addr) (bs : List Int) (n c : Nat) (w : World) (hn : n = bs.length) (h : Rd w A 1 n (bts bs)) (hb : ∀ x ∈ bs, 0 ≤ x ∧ x ≤ 255) (hl : n ≤ 140737488355328) :
    Calls Tryd.prog 20 #[.slice A n c] w fun e w' => e = .returned (.int .u16 (jsum bs)) ∧ w = w' := by
  subst hn
  go_enter Tryd.func20, Tryd.ntmps20
  go_wp2
  go_loop [3, 8] (fun n i => ∃ k : Nat, k ≤ bs.length ∧ i = .int .i64 k ∧ n = .int .u16 (jsum (bs.take k))) (fun _ i => bs.length - (intOf i).toNat)
  case atStart => exact ⟨0, Nat.zero_le _, rfl, rfl⟩
  case round =>
    obtain ⟨k, hk, rfl, rfl⟩ := hrel
    by_cases hlt : k < bs.length
    · obtain ⟨b, o, rfl, hbl, hc⟩ := h.2 (by omega)
      have hc1 := hc k (.int .u8 bs[k]) (by simp [bts, hlt])
      have hbb := hb bs[k] (List.getElem_mem _)
      obtain ⟨x, hx⟩ : ∃ x, bs[k] = x := ⟨_, rfl⟩
      rw [hx] at hc1 hbb
      have HX := Lib.hid hx
      clear hc hx
      go_wp2
      exact ⟨⟨k + 1, by omega, by go_num, val_int (jsum_step bs k hlt x HX.out)⟩, by simp [intOf]; omega⟩
    · go_wp2
      go_ret
      exact ⟨ret_int (by rw [List.take_of_length_le (by omega)]), rfl⟩
end Go.Proofs.YtdcgminjamofmaaDoor
