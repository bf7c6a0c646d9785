/- Contracts of maps.After: at a line that is none; at one map. -/
import Derived.Test.YtcgbdkjelbgcfaaGreatDoorBlank
namespace Go.Proofs.YtcgbdkjelbgcfaaGreatDoor
open Go.RowKit

def zeroMap : Value := .agg #[.int .i64 0, .int .i64 0, .slice none 0 0, .slice none 0 0]
theorem new3 (w : World) (o0 o1 o2 : Obj) : (((w.alloc o0).alloc o1).alloc o2).heap[w.heap.size]? = some o0 ∧ (((w.alloc o0).alloc o1).alloc o2).heap[w.heap.size + 1]? = some o1 ∧ (((w.alloc o0).alloc o1).alloc o2).heap[w.heap.size + 1 + 1]? = some o2 := by
  have s1 : (w.alloc o0).heap.size = w.heap.size + 1 := by simp
  have s2 : ((w.alloc o0).alloc o1).heap.size = w.heap.size + 1 + 1 := by simp
  have a0 := heap_alloc_new w o0
  have a1 := heap_alloc_new (w.alloc o0) o1
  have a2 := heap_alloc_new ((w.alloc o0).alloc o1) o2
  have b1 : ∀ (v : World) (o : Obj), Below v.heap.size v (v.alloc o) := fun v o => (Below.refl _ _).alloc (Nat.le_refl _) o
  have c0 := kept (b1 _ o2) (kept (b1 _ o1) a0 (by omega)) (by omega)
  have c1 := kept (b1 _ o2) a1 (by omega)
  rw [s1] at c1
  rw [s2] at a2
  exact ⟨c0, c1, a2⟩

set_option maxHeartbeats 4000000 in
set_option maxRecDepth 100000 in
theorem after_none (W H : Int) (RA UA : Option Addr) (R U : List Row) (cr cu : Nat) (w : World) (hm : MapOk w RA UA R U) :
    Calls Tryz.prog 7 #[.agg #[.int .i64 W, .int .i64 H, .slice RA R.length cr, .slice UA U.length cu], .agg #[.int .u8 3, .int .i64 1]] w (RetBelow (.tuple #[zeroMap, .int .i64 (if chkM W H R U = 0 then 1 else chkM W H R U)]) w) := by
  obtain ⟨Z, hZ⟩ : ∃ Z, chkM W H R U = Z := ⟨_, rfl⟩
  rw [hZ]
  have HM := Lib.hid hm
  have HZ := Lib.hid hZ
  clear hm hZ
  obtain ⟨n1, n2, n3⟩ := new3 w (.cells #[.int .i64 W, .int .i64 H, .slice RA R.length cr, .slice UA U.length cu] 24) (.cells #[.int .u8 3, .int .i64 1] 43) (.cells #[.int .i64 0, .int .i64 0, .slice none 0 0, .slice none 0 0] 24)
  have hb1 : Below w.heap.size w (((w.alloc (.cells #[.int .i64 W, .int .i64 H, .slice RA R.length cr, .slice UA U.length cu] 24)).alloc (.cells #[.int .u8 3, .int .i64 1] 43)).alloc (.cells #[.int .i64 0, .int .i64 0, .slice none 0 0, .slice none 0 0] 24)) := (((Below.refl _ _).alloc (Nat.le_refl _) _).alloc (by simp) _).alloc (by simp; omega) _
  obtain ⟨Y, hY⟩ : ∃ Y, (if Z = 0 then 1 else Z) = Y := ⟨_, rfl⟩
  rw [hY]
  have HY := Lib.hid hY
  clear hY
  go_enter Tryz.func7, Tryz.ntmps7
  go_upto_region 1 with fail
  obtain ⟨V, hV⟩ : ∃ V, V = ((w.alloc (.cells #[.int .i64 W, .int .i64 H, .slice RA R.length cr, .slice UA U.length cu] 24)).alloc (.cells #[.int .u8 3, .int .i64 1] 43)).alloc (.cells #[.int .i64 0, .int .i64 0, .slice none 0 0, .slice none 0 0] 24) := ⟨_, rfl⟩
  rw [← hV] at n1 n2 n3 hb1 ⊢
  obtain ⟨N, hN⟩ : ∃ N, N = w.heap.size := ⟨_, rfl⟩
  rw [← hN] at n1 n2 n3 ⊢
  have HN := Lib.hid hN
  have N1 := Lib.hid n1
  have N2 := Lib.hid n2
  have N3 := Lib.hid n3
  have hNV : N + 1 + 1 < V.heap.size := (Array.getElem?_eq_some_iff.1 n3).1
  obtain ⟨⟨x0, x1, x2, x3⟩, _⟩ := blk4 n1
  clear hV hN n1 n2 n3
  go_wp2_with fail
  refine (mcheck_any W H RA UA R U cr cu V (HM.out.below hb1)).mono ?_
  rintro e w2 ⟨rfl, hb2⟩
  rw [HZ.out]
  obtain ⟨⟨l0, l1⟩, _⟩ := blk2 (kept hb2 N2.out (by omega))
  obtain ⟨⟨z0, z1, z2, z3⟩, ⟨f0, f1, f2, f3⟩⟩ := blk4 (kept hb2 N3.out hNV)
  have hb3 : Below w.heap.size w w2 := hb1.trans (hb2.mono hb1.size)
  clear x0 x1 x2 x3
  by_cases hz : Z = 0
  · subst hz
    obtain rfl : 1 = Y := by simpa using HY.out
    go_wp2_with fail
    go_quiet (fail)
    go_wp2_with fail
    refine bodyPost_ret (v := .tuple #[zeroMap, .int .i64 1]) (by simp [zeroMap, results, Tryz.results7, go_sem, z0, z1, z2, z3]) rfl ⟨rfl, ?_⟩
    have hw : w.heap.size ≤ N + 1 + 1 := by have := HN.out; omega
    exact ((((below_drewN hb3 _).setCell hw _).setCell hw _).setCell hw _).setCell hw _
  · have hbz : (Z != 0) = true := by simpa using hz
    obtain rfl : Z = Y := by have := HY.out; rwa [if_neg hz] at this
    clear hz
    go_wp2_with fail
    refine bodyPost_ret (v := .tuple #[zeroMap, .int .i64 Z]) (by simp [zeroMap, results, Tryz.results7, go_sem, z0, z1, z2, z3]) rfl ⟨rfl, ?_⟩
    have hw : w.heap.size ≤ N + 1 + 1 := by have := HN.out; omega
    exact (((hb3.setCell hw _).setCell hw _).setCell hw _).setCell hw _
end Go.Proofs.YtcgbdkjelbgcfaaGreatDoor
