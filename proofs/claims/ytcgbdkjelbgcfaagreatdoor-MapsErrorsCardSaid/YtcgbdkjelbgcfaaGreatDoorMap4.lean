/- Contract of part.left. -/
import Derived.Test.YtcgbdkjelbgcfaaGreatDoorMap3
namespace Go.Proofs.YtcgbdkjelbgcfaaGreatDoor
open Go.RowKit

/-- A part of a map. -/
structure Pt where
  a : Nat
  b : Nat
  c : Nat
  d : Nat
deriving DecidableEq
def Pt.v (p : Pt) : Value := .agg #[.int .i64 p.a, .int .i64 p.b, .int .i64 p.c, .int .i64 p.d]
def Pt.from' (p : Pt) (way : Nat) : Nat := if way = 0 then p.a else p.c
def Pt.to (p : Pt) (way : Nat) : Nat := if way = 0 then p.b else p.d
def Pt.low (p : Pt) (way : Nat) : Nat := if way = 0 then p.c else p.a
def Pt.high (p : Pt) (way : Nat) : Nat := if way = 0 then p.d else p.b
def leftP (p : Pt) (way c : Nat) : Pt × Int :=
  if p.to way + p.from' way > 2 * c then (if way = 0 then ⟨c, p.b, p.c, p.d⟩ else ⟨p.a, p.b, c, p.d⟩, 0) else (if way = 0 then ⟨p.a, c, p.c, p.d⟩ else ⟨p.a, p.b, p.c, c⟩, 1)

set_option maxHeartbeats 2000000 in
theorem left_any (p : Pt) (way c : Nat) (w : World) (hw : way ≤ 1) (h1 : p.a ≤ 100) (h2 : p.b ≤ 100) (h3 : p.c ≤ 100) (h4 : p.d ≤ 100) (h5 : c ≤ 100) :
    Calls Tryz.prog 21 #[p.v, .int .i64 way, .int .i64 c] w (RetBelow (.tuple #[(leftP p way c).1.v, .int .u8 (leftP p way c).2]) w) := by
  obtain ⟨a, b, cc, d⟩ := p
  obtain ⟨R, hR⟩ : ∃ R, leftP ⟨a, b, cc, d⟩ way c = R := ⟨_, rfl⟩
  rw [hR]
  have HR := Lib.hid hR
  clear hR
  unfold Pt.v
  dsimp only at *
  obtain ⟨n1, n2⟩ := new2 w (.cells #[.int .i64 a, .int .i64 b, .int .i64 cc, .int .i64 d] 64) (.cells #[.int .i64 0, .int .i64 0, .int .i64 0, .int .i64 0] 64)
  have hb1 : Below w.heap.size w ((w.alloc (.cells #[.int .i64 a, .int .i64 b, .int .i64 cc, .int .i64 d] 64)).alloc (.cells #[.int .i64 0, .int .i64 0, .int .i64 0, .int .i64 0] 64)) := ((Below.refl _ _).alloc (Nat.le_refl _) _).alloc (by simp) _
  obtain rfl | rfl : way = 0 ∨ way = 1 := by omega
  · have e1 : IntKind.i64.wrap ((b : Int) - (c : Int)) = (b : Int) - (c : Int) := IntWalk.i64_in _ (by omega)
    have e2 : IntKind.i64.wrap ((c : Int) - (a : Int)) = (c : Int) - (a : Int) := IntWalk.i64_in _ (by omega)
    by_cases hg : b + a > 2 * c
    · have hd : decide ((c : Int) - (a : Int) < (b : Int) - (c : Int)) = true := by simp; omega
      have hfin : R = (⟨c, b, cc, d⟩, 0) := by rw [← HR.out]; unfold leftP Pt.to Pt.from'; rw [if_pos (by simpa using hg)]; rfl
      have HF := Lib.hid hfin
      clear hfin hg
      go_enter Tryz.func21, Tryz.ntmps21
      go_upto_region 1 with fail
      obtain ⟨V, hV⟩ : ∃ V, V = (w.alloc (.cells #[.int .i64 a, .int .i64 b, .int .i64 cc, .int .i64 d] 64)).alloc (.cells #[.int .i64 0, .int .i64 0, .int .i64 0, .int .i64 0] 64) := ⟨_, rfl⟩
      rw [← hV] at n1 n2 hb1 ⊢
      obtain ⟨N, hN⟩ : ∃ N, N = w.heap.size := ⟨_, rfl⟩
      rw [← hN] at n1 n2 ⊢
      have HNN := Lib.hid hN
      obtain ⟨⟨x0, x1, x2, x3⟩, z0, z1, z2, z3⟩ := blk4 n1
      obtain ⟨⟨r0, r1, r2, r3⟩, v0, v1, v2, v3⟩ := blk4 n2
      clear hV n1 n2 hN
      go_quiet (fail)
      go_wp2_with fail
      refine bodyPost_ret (v := .tuple #[.agg #[.int .i64 c, .int .i64 b, .int .i64 cc, .int .i64 d], .int .u8 0]) (by simp [results, Tryz.results21, go_sem, r0, r1, r2, r3]) rfl ⟨by rw [HF.out], ?_⟩
      have h9 := HNN.out
      repeat' (first | exact below_drewN hb1 _ | refine Below.setCell ?_ (by simp; omega) _)
    · have hd : decide ((c : Int) - (a : Int) < (b : Int) - (c : Int)) = false := by simp; omega
      have hfin : R = (⟨a, c, cc, d⟩, 1) := by rw [← HR.out]; unfold leftP Pt.to Pt.from'; rw [if_neg (by simpa using hg)]; rfl
      have HF := Lib.hid hfin
      clear hfin hg
      go_enter Tryz.func21, Tryz.ntmps21
      go_upto_region 1 with fail
      obtain ⟨V, hV⟩ : ∃ V, V = (w.alloc (.cells #[.int .i64 a, .int .i64 b, .int .i64 cc, .int .i64 d] 64)).alloc (.cells #[.int .i64 0, .int .i64 0, .int .i64 0, .int .i64 0] 64) := ⟨_, rfl⟩
      rw [← hV] at n1 n2 hb1 ⊢
      obtain ⟨N, hN⟩ : ∃ N, N = w.heap.size := ⟨_, rfl⟩
      rw [← hN] at n1 n2 ⊢
      have HNN := Lib.hid hN
      obtain ⟨⟨x0, x1, x2, x3⟩, z0, z1, z2, z3⟩ := blk4 n1
      obtain ⟨⟨r0, r1, r2, r3⟩, v0, v1, v2, v3⟩ := blk4 n2
      clear hV n1 n2 hN
      go_quiet (fail)
      go_wp2_with fail
      refine bodyPost_ret (v := .tuple #[.agg #[.int .i64 a, .int .i64 c, .int .i64 cc, .int .i64 d], .int .u8 1]) (by simp [results, Tryz.results21, go_sem, r0, r1, r2, r3]) rfl ⟨by rw [HF.out], ?_⟩
      have h9 := HNN.out
      repeat' (first | exact below_drewN hb1 _ | refine Below.setCell ?_ (by simp; omega) _)
  · have e1 : IntKind.i64.wrap ((d : Int) - (c : Int)) = (d : Int) - (c : Int) := IntWalk.i64_in _ (by omega)
    have e2 : IntKind.i64.wrap ((c : Int) - (cc : Int)) = (c : Int) - (cc : Int) := IntWalk.i64_in _ (by omega)
    by_cases hg : d + cc > 2 * c
    · have hd : decide ((c : Int) - (cc : Int) < (d : Int) - (c : Int)) = true := by simp; omega
      have hfin : R = (⟨a, b, c, d⟩, 0) := by rw [← HR.out]; unfold leftP Pt.to Pt.from'; rw [if_pos (by simpa using hg)]; rfl
      have HF := Lib.hid hfin
      clear hfin hg
      go_enter Tryz.func21, Tryz.ntmps21
      go_upto_region 1 with fail
      obtain ⟨V, hV⟩ : ∃ V, V = (w.alloc (.cells #[.int .i64 a, .int .i64 b, .int .i64 cc, .int .i64 d] 64)).alloc (.cells #[.int .i64 0, .int .i64 0, .int .i64 0, .int .i64 0] 64) := ⟨_, rfl⟩
      rw [← hV] at n1 n2 hb1 ⊢
      obtain ⟨N, hN⟩ : ∃ N, N = w.heap.size := ⟨_, rfl⟩
      rw [← hN] at n1 n2 ⊢
      have HNN := Lib.hid hN
      obtain ⟨⟨x0, x1, x2, x3⟩, z0, z1, z2, z3⟩ := blk4 n1
      obtain ⟨⟨r0, r1, r2, r3⟩, v0, v1, v2, v3⟩ := blk4 n2
      clear hV n1 n2 hN
      go_quiet (fail)
      go_wp2_with fail
      refine bodyPost_ret (v := .tuple #[.agg #[.int .i64 a, .int .i64 b, .int .i64 c, .int .i64 d], .int .u8 0]) (by simp [results, Tryz.results21, go_sem, r0, r1, r2, r3]) rfl ⟨by rw [HF.out], ?_⟩
      have h9 := HNN.out
      repeat' (first | exact below_drewN hb1 _ | refine Below.setCell ?_ (by simp; omega) _)
    · have hd : decide ((c : Int) - (cc : Int) < (d : Int) - (c : Int)) = false := by simp; omega
      have hfin : R = (⟨a, b, cc, c⟩, 1) := by rw [← HR.out]; unfold leftP Pt.to Pt.from'; rw [if_neg (by simpa using hg)]; rfl
      have HF := Lib.hid hfin
      clear hfin hg
      go_enter Tryz.func21, Tryz.ntmps21
      go_upto_region 1 with fail
      obtain ⟨V, hV⟩ : ∃ V, V = (w.alloc (.cells #[.int .i64 a, .int .i64 b, .int .i64 cc, .int .i64 d] 64)).alloc (.cells #[.int .i64 0, .int .i64 0, .int .i64 0, .int .i64 0] 64) := ⟨_, rfl⟩
      rw [← hV] at n1 n2 hb1 ⊢
      obtain ⟨N, hN⟩ : ∃ N, N = w.heap.size := ⟨_, rfl⟩
      rw [← hN] at n1 n2 ⊢
      have HNN := Lib.hid hN
      obtain ⟨⟨x0, x1, x2, x3⟩, z0, z1, z2, z3⟩ := blk4 n1
      obtain ⟨⟨r0, r1, r2, r3⟩, v0, v1, v2, v3⟩ := blk4 n2
      clear hV n1 n2 hN
      go_quiet (fail)
      go_wp2_with fail
      refine bodyPost_ret (v := .tuple #[.agg #[.int .i64 a, .int .i64 b, .int .i64 cc, .int .i64 c], .int .u8 1]) (by simp [results, Tryz.results21, go_sem, r0, r1, r2, r3]) rfl ⟨by rw [HF.out], ?_⟩
      have h9 := HNN.out
      repeat' (first | exact below_drewN hb1 _ | refine Below.setCell ?_ (by simp; omega) _)
end Go.Proofs.YtcgbdkjelbgcfaaGreatDoor
