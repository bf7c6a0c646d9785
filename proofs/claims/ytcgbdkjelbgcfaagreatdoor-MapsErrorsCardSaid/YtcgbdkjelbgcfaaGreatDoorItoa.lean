/- strconv.Itoa at the numbers 1 to 16: the executor's runs, by the kernel. -/
import Derived.Test.YtcgbdkjelbgcfaaGreatDoorLiv2
namespace Go.Proofs.YtcgbdkjelbgcfaaGreatDoor
open Ex Go.RowKit

noncomputable def itoaRun (n : Nat) : CRes := run 0 Tryz.prog extM (fun call => doDrawn 0 Tryz.prog extM call) 100 31 [.int .i64 (.ofNat n)] ⟨.e, 0⟩
/-- The digits. -/
def digs (n : Nat) : List Nat := if n < 10 then [48 + n] else [49, 48 + (n - 10)]
noncomputable def itoaIs (n : Nat) : Bool := match itoaRun n with
  | .ok (.str l) _ => leq l (digs n)
  | _ => false
set_option maxRecDepth 100000 in
theorem itoaIs_all : (itoaIs 1 && itoaIs 2 && itoaIs 3 && itoaIs 4 && itoaIs 5 && itoaIs 6 && itoaIs 7 && itoaIs 8 && itoaIs 9 && itoaIs 10 && itoaIs 11 && itoaIs 12 && itoaIs 13 && itoaIs 14 && itoaIs 15 && itoaIs 16) = true := by kernel_rfl
theorem itoaIs_at (n : Nat) (h1 : 1 ≤ n) (h2 : n ≤ 16) : itoaIs n = true := by
  have h := itoaIs_all
  simp only [Bool.and_eq_true] at h
  obtain ⟨⟨⟨⟨⟨⟨⟨⟨⟨⟨⟨⟨⟨⟨⟨a1, a2⟩, a3⟩, a4⟩, a5⟩, a6⟩, a7⟩, a8⟩, a9⟩, a10⟩, a11⟩, a12⟩, a13⟩, a14⟩, a15⟩, a16⟩ := h
  match n, h1, h2 with
  | 1, _, _ => exact a1
  | 2, _, _ => exact a2
  | 3, _, _ => exact a3
  | 4, _, _ => exact a4
  | 5, _, _ => exact a5
  | 6, _, _ => exact a6
  | 7, _, _ => exact a7
  | 8, _, _ => exact a8
  | 9, _, _ => exact a9
  | 10, _, _ => exact a10
  | 11, _, _ => exact a11
  | 12, _, _ => exact a12
  | 13, _, _ => exact a13
  | 14, _, _ => exact a14
  | 15, _, _ => exact a15
  | 16, _, _ => exact a16
  | n + 17, _, h => exact absurd h (by omega)
theorem itoa_any (n : Nat) (h1 : 1 ≤ n) (h2 : n ≤ 16) (w : World) : Calls Tryz.prog 31 #[.int .i64 n] w fun e w' => e = .returned (.string (bytesOf (digs n))) ∧ Below w.heap.size w w' := by
  have h := itoaIs_at n h1 h2
  unfold itoaIs at h
  split at h
  · rename_i l S' hr
    rw [leq_eq, decide_eq_true_eq] at h
    subst h
    have hw : WR (fun _ => none) ⟨.e, 0⟩ w := ⟨fun i j b m n A B h => (by rw [Tr.at_e] at h; cases h), fun i _ => ⟨rfl, Tr.at_e i⟩, by decide, fun i b n h => (by cases h), fun i B h => (by rw [Tr.at_e] at h; cases h)⟩
    have hc := (run_sound (K := 0) mixedP extM_ok 100 31 [.int .i64 (.ofNat n)] ⟨.e, 0⟩ (.str (digs n)) S' hr (fun _ => none) [.int .i64 (.ofNat n)] w (by simp only [VRL, VR]; exact ⟨_, [], rfl, rfl, rfl⟩) hw (Nat.le_refl _)).2
    refine hc.mono ?_
    rintro e w' ⟨x, σ, rfl, hx, _, _, hf⟩
    simp only [VR] at hx
    rw [hx.1]
    exact ⟨rfl, hf.os, hf.tape, hf.output, hf.size, fun k hk => hf.block k hk fun i n A _ hA => (by rw [Tr.at_e] at hA; cases hA)⟩
  · cases h
end Go.Proofs.YtcgbdkjelbgcfaaGreatDoor
