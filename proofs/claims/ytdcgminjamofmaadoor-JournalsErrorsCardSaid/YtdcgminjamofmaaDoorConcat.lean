/- Contracts of slices.Grow and slices.Concat at bytes. -/
import Derived.Test.YtdcgminjamofmaaDoorLBlk
import Derived.Lib.AppendZeros
namespace Go.Proofs.YtdcgminjamofmaaDoor
open Go.RowKit

theorem own_none {w : World} {g base n c : Nat} {e : TypeId} {cs : Array Value} {sz : Nat} (hb : base ≤ g) (hg : w.heap[g]? = some (.cells cs e (0, 0))) (_hn : n ≤ c) (hc : c ≤ maxLen) (hcs : cs.size = c * sz) : w.ownsRow base e sz (.slice (some ⟨g, 0, none⟩) 0 c) 0 [] :=
  ⟨by simp, .inr ⟨g, c, cs, rfl, hb, hg, by omega, hc, hcs, by simp⟩⟩

set_option maxHeartbeats 1000000 in
set_option maxRecDepth 100000 in
theorem grow_nil (n : Nat) (w : World) (hn : n ≤ 1000000000000) :
    Calls Tryd.prog 47 #[.slice none 0 0, .int .i64 n] w (OwnRet 5 1 0 [] w) := by
  obtain ⟨i0, hi0, hz0, hz1, hz2⟩ := info_parts byte_info
  go_enter Tryd.func47, Tryd.ntmps47
  by_cases h0 : n = 0
  · subst h0
    go_wp2_with fail
    go_ret
    exact ⟨_, rfl, World.ownsRow_nil _ _ _ _, Below.refl _ _⟩
  · have hr := Lib.run_append_nil_zeros (P := Tryd.prog) w 39 3 39 5 i0 _ .i64 .i64 Tryd.underlying39 Tryd.underlying3 hi0 hz0 n (by omega) (by omega) (by omega) (by rw [hz2]; omega)
    have hge := grownCap_ge w n 0 5
    have hcm := grownCap_le_maxLen w n 0 5 (by simp [maxLen]; omega)
    obtain ⟨C, hC⟩ : ∃ C, grownCap w n 0 5 = C := ⟨_, rfl⟩
    rw [hC] at hr hge hcm
    have HR := Lib.hid hr
    have hnp : (0 : Int) < (n : Int) := by omega
    unfold maxLen at hcm
    clear hr hC
    go_wp2_with (at_builtin; refine Lib.wpList_append_run _ rfl _ _ _ _ rfl _ _ rfl rfl _ _ HR.out ?_)
    go_wp2_with fail
    go_ret
    refine ⟨_, rfl, own_none (cs := Builtin.zeroCells (Value.int .u8 0).cells n ++ Builtin.zeroCells (Value.int .u8 0).cells (C - n)) (n := 0) (Nat.le_refl _) (heap_alloc_new w.drew _) (Nat.zero_le _) (by unfold maxLen; exact hcm) ?_, (Below.refl _ _).drew.alloc (Nat.le_refl _) _⟩
    rw [Array.size_append, size_zeroCells, size_zeroCells]
    simp [Value.cells]
    omega

theorem run_append_rd {P : Program} (w : World) (base : Nat) (t ty e : TypeId) (i : TypeInfo) (z : Value) (ht : P.underlying t = some (.slice e)) (hi : P.info? e = some i) (hz : i.zero = some z)
    (hsize : i.size = 1) (hby : i.bytes = 1) (hzs : z.cells.size = 1) (v : Value) (n : Nat) (xs : List Value) (hown : w.ownsRow base e 1 v n xs) (A : Option Addr) (m c : Nat) (l : List Int) (hR : Rd w A 1 m (bts l)) (hA : A = none → m = 0)
    (h63 : n + m ≤ 1000000000000) (hbase : base ≤ w.heap.size) :
    ∃ v' w', (Builtin.append_ #[t, t] ty #[v, .slice A m c]).run P w = .ok v' w' ∧ w'.ownsRow base e 1 v' (n + m) (xs ++ bts l) ∧ w.grownBy w' v.ownBlock := by
  cases A with
  | none =>
    have hm := hA rfl
    subst hm
    have hl : l = [] := by
      have := hR.1
      rw [bts_len] at this
      exact List.length_eq_zero_iff.1 (by omega)
    subst hl
    have e1 : xs ++ bts [] = xs := by simp [bts]
    rw [e1, Nat.add_zero]
    refine ⟨v, w, ?_, hown, grown_refl _ _⟩
    rcases hown.2 with ⟨rfl, rfl⟩ | ⟨g, cap, cur, rfl, _, _, hnc, _⟩
    · simp [Builtin.append_, run_underlying ht, sizeOf, typeInfo, hi, Builtin.lenOf, Builtin.firstCells]
    · exact run_append_none w t ty e i ht hi _ n cap c hnc
  | some a =>
    obtain ⟨v', w', hr, h2, h3, _⟩ := run_append_own_at (P := P) w base t ty e i z 1 1 ht hi hz hsize hby hzs (by omega) v n xs hown a m c (bts l) hR.1 hR.all (bts_one _) (by unfold maxLen; omega) (by omega) hbase
    exact ⟨v', w', hr, h2, h3⟩

set_option maxHeartbeats 2000000 in
set_option maxRecDepth 100000 in
theorem concat_two (sb so : Nat) (A1 A2 : Option Addr) (l1 l2 : List Int) (n1 n2 c1 c2 cc : Nat) (w : World) (hs : sb < w.heap.size) (h1 : w.cell? ⟨sb, so, none⟩ = some (.slice A1 n1 c1)) (h2 : w.cell? ⟨sb, so + 1, none⟩ = some (.slice A2 n2 c2))
    (r1 : Rd w A1 1 n1 (bts l1)) (r2 : Rd w A2 1 n2 (bts l2)) (a1 : A1 = none → n1 = 0) (a2 : A2 = none → n2 = 0) (b1 : n1 ≤ 100000000) (b2 : n2 ≤ 100000000) :
    Calls Tryd.prog 33 #[.slice (some ⟨sb, so, none⟩) 2 cc] w (OwnRet 5 1 (n1 + n2) (bts (l1 ++ l2)) w) := by
  obtain ⟨i0, hi0, hz0, hz1, hz2⟩ := info_parts byte_info
  have R1 := Lib.hid r1
  have R2 := Lib.hid r2
  have A1' := Lib.hid a1
  have A2' := Lib.hid a2
  clear r1 r2 a1 a2
  go_enter Tryd.func33, Tryd.ntmps33
  go_wp2_with fail
  refine wp_loop_rounds 3 ?_
  rw [rounds_succ]
  go_wp2_with fail
  rw [rounds_succ]
  go_wp2_with fail
  rw [rounds_succ]
  go_wp2_with fail
  have hgr := grow_nil (n1 + n2) w (by omega)
  rw [Int.natCast_add] at hgr
  refine hgr.mono ?_
  clear hgr
  rintro e w1 ⟨v1, rfl, hown1, hb1⟩
  have e1 := below_cell hb1 h1
  have e2 := below_cell hb1 h2
  have hs1 : sb < w1.heap.size := Nat.lt_of_lt_of_le hs hb1.size
  obtain ⟨v2, w2, hr2, hown2, hg2⟩ := run_append_rd (P := Tryd.prog) w1 w.heap.size 39 39 5 i0 _ Tryd.underlying39 hi0 hz0 hz1 hz2 rfl v1 0 [] hown1 A1 n1 c1 l1 (R1.out.below hb1) A1'.out (by omega) hb1.size
  have hb2 : Below w.heap.size w w2 := hb1.grown hg2 hb1.size (fun q hq => (hown1.lt q hq).1)
  have e3 : w2.cell? ⟨sb, so + 1, none⟩ = some (.slice A2 n2 c2) := below_cell hb2 h2
  obtain ⟨v3, w3, hr3, hown3, hg3⟩ := run_append_rd (P := Tryd.prog) w2 w.heap.size 39 39 5 i0 _ Tryd.underlying39 hi0 hz0 hz1 hz2 rfl v2 _ _ hown2 A2 n2 c2 l2 (R2.out.below hb2) A2'.out (by omega) hb2.size
  have hb3 : Below w.heap.size w w3 := hb2.grown hg3 hb2.size (fun q hq => (hown2.lt q hq).1)
  have HR2 := Lib.hid hr2
  have HR3 := Lib.hid hr3
  have HO3 := Lib.hid hown3
  clear hr2 hr3 hown1 hown2 hown3 hg2 hg3 h1 h2
  go_wp2_with fail
  refine wp_loop_rounds 3 ?_
  rw [rounds_succ]
  go_wp2_with (at_builtin; refine Lib.wpList_append_run _ rfl _ _ _ _ rfl _ _ rfl rfl _ _ HR2.out ?_)
  clear HR2
  go_wp2_with fail
  rw [rounds_succ]
  go_wp2_with (at_builtin; refine Lib.wpList_append_run _ rfl _ _ _ _ rfl _ _ rfl rfl _ _ HR3.out ?_)
  go_wp2_with fail
  rw [rounds_succ]
  go_wp2_with fail
  go_ret
  refine ⟨_, rfl, ?_, hb3⟩
  have := HO3.out
  rw [Nat.zero_add, List.nil_append] at this
  simpa [bts] using this
end Go.Proofs.YtdcgminjamofmaaDoor
